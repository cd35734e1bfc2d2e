/-
  What 'opcode.Reads' and 'opcode.Writes' answer. No condition.
-/
import Derived.Test.YtkjcokmbjdafnaaDoorSpan
import Derived.Test.YtkjcokmbjdafnaaDoorOpc3
set_option linter.unusedVariables false
set_option linter.unusedSimpArgs false
set_option maxRecDepth 100000
set_option maxHeartbeats 0
namespace Go.Proofs.YtkjcokmbjdafnaaDoor
open Go.Abs
attribute [local irreducible] CallS Run
-- EV: Ins.v, Ins.row
theorem reads_pure (i : Ins) : Pure Tryd.prog 54 [i.v] (.tup [.isl ((reads i).1.map zrw), .int .i64 (reads i).2]) := by
  refine Pure.of 1 (CallS.enter opcode_Reads_ok (Nat.le_of_ble_eq_true rfl) ?_)
  refine Run.go 100 ?_
  simp -implicitDefEqProofs only [go_sem, Ins.v, Ins.row, initSl]
  refine CallS.pureF (check_pure i) (by simp -implicitDefEqProofs only [go_sem, Ins.v, Ins.row]) ?_
  by_cases hc : chk i = 0
  rotate_left
  · rw [show reads i = ([], -1) from if_neg hc]
    simp -implicitDefEqProofs only [go_sem, Ins.v, Ins.row, hc, List.map_nil]
  · rw [show reads i = rds i from if_pos hc, hc]
    have h0 := chk_ok hc
    simp -implicitDefEqProofs only [go_sem, Ins.v, Ins.row]
    repeat' (first | refine And.intro ?_ ?_ | refine fun h => ?_)
    all_goals first
      | omega
      | (simp [rds, zrw, *]; done)
      | (rw [show rds i = (normZ [i.b, i.c], -1) by simp [rds, *]]
         refine CallS.at [0] [] (sorted_c [i.b, i.c] (m := 2) rfl (by omega) (by omega) _ _ _) rfl rfl ?_
         rintro r h' n' hn ⟨rfl, rfl⟩
         simp -implicitDefEqProofs only [go_sem, Ins.v, Ins.row, norm_take, frzZ, Nat.le_add_right]
         done)
      | (rw [show rds i = (normZ [i.a, i.b, i.c], -1) by simp [rds, *]]
         refine CallS.at [0] [] (sorted_c [i.a, i.b, i.c] (m := 3) rfl (by omega) (by omega) _ _ _) rfl rfl ?_
         rintro r h' n' hn ⟨rfl, rfl⟩
         simp -implicitDefEqProofs only [go_sem, Ins.v, Ins.row, norm_take, frzZ, Nat.le_add_right]
         done)
      | (rw [show rds i = (i.a :: (spanP (i.a + 1) i.b).1, (spanP (i.a + 1) i.b).2) by simp [rds, *]]
         have hle : (spanP (i.a + 1) i.b).1.length ≤ 20000 := by have := spanP_len (i.a + 1) i.b; omega
         have hsz := rowszZ' (spanP (i.a + 1) i.b).1
         refine CallS.pureF (span_pure (i.a + 1) i.b ⟨by omega, by omega⟩ (by omega)) (by simp -implicitDefEqProofs only [go_sem, Ins.v, Ins.row, subZ']) ?_
         simp -implicitDefEqProofs only [go_sem, Ins.v, Ins.row, frzZ, hsz, List.length_map]
         refine ⟨by omega, ?_⟩
         rw [if_pos (by omega), List.take_of_length_le (by simp; omega)]
         exact congrArg V.isl (frzZ 0 _ (i.a :: (spanP (i.a + 1) i.b).1)))
      | (rw [show rds i = spanP (i.a) i.b by simp [rds, *]]
         refine CallS.pureF (span_pure (i.a) i.b ⟨by omega, by omega⟩ (by omega)) (by simp -implicitDefEqProofs only [go_sem, Ins.v, Ins.row]) ?_
         simp -implicitDefEqProofs only [go_sem, Ins.v, Ins.row, frzZ]
         done)
      | (rw [show rds i = spanP (i.a) 3 by simp [rds, *]]
         refine CallS.pureF (span_pure (i.a) 3 ⟨by omega, by omega⟩ (by omega)) (by simp -implicitDefEqProofs only [go_sem, Ins.v, Ins.row]) ?_
         simp -implicitDefEqProofs only [go_sem, Ins.v, Ins.row, frzZ]
         done)
theorem writes_pure (i : Ins) : Pure Tryd.prog 55 [i.v] (.tup [.isl ((writes i).1.map zrw), .int .i64 (writes i).2]) := by
  refine Pure.of 1 (CallS.enter opcode_Writes_ok (Nat.le_of_ble_eq_true rfl) ?_)
  refine Run.go 100 ?_
  simp -implicitDefEqProofs only [go_sem, Ins.v, Ins.row, initSl]
  refine CallS.pureF (check_pure i) (by simp -implicitDefEqProofs only [go_sem, Ins.v, Ins.row]) ?_
  by_cases hc : chk i = 0
  rotate_left
  · rw [show writes i = ([], -1) from if_neg hc]
    simp -implicitDefEqProofs only [go_sem, Ins.v, Ins.row, hc, List.map_nil]
  · rw [show writes i = wrs i from if_pos hc, hc]
    have h0 := chk_ok hc
    have h1 := chk_fits hc
    simp -implicitDefEqProofs only [go_sem, Ins.v, Ins.row]
    repeat' (first | refine And.intro ?_ ?_ | refine fun h => ?_)
    all_goals first
      | omega
      | (simp [wrs, zrw, *]; done)
      | (rw [show wrs i = spanP (i.a) (i.b - i.a + 1) by simp [wrs, *]]
         refine CallS.pureF (span_pure (i.a) (i.b - i.a + 1) ⟨by omega, by omega⟩ (by omega)) (by simp -implicitDefEqProofs only [go_sem, Ins.v, Ins.row]) ?_
         simp -implicitDefEqProofs only [go_sem, Ins.v, Ins.row, frzZ]
         done)
      | (rw [show wrs i = spanP (i.a) (i.c) by simp [wrs, *]]
         refine CallS.pureF (span_pure (i.a) (i.c) ⟨by omega, by omega⟩ (by omega)) (by simp -implicitDefEqProofs only [go_sem, Ins.v, Ins.row]) ?_
         simp -implicitDefEqProofs only [go_sem, Ins.v, Ins.row, frzZ]
         done)
      | (rw [show wrs i = spanP (i.a) (i.b) by simp [wrs, *]]
         refine CallS.pureF (span_pure (i.a) (i.b) ⟨by omega, by omega⟩ (by omega)) (by simp -implicitDefEqProofs only [go_sem, Ins.v, Ins.row]) ?_
         simp -implicitDefEqProofs only [go_sem, Ins.v, Ins.row, frzZ]
         done)
      | (rw [show wrs i = spanP (i.a + 3) (i.c) by simp [wrs, *]]
         refine CallS.pureF (span_pure (i.a + 3) (i.c) ⟨by omega, by omega⟩ (by omega)) (by simp -implicitDefEqProofs only [go_sem, Ins.v, Ins.row]) ?_
         simp -implicitDefEqProofs only [go_sem, Ins.v, Ins.row, frzZ]
         done)
end Go.Proofs.YtkjcokmbjdafnaaDoor
