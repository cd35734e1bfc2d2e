/-
  The law's own example. No condition.
-/
import Derived.Test.YtcleahokjbeapaaDoorFnK
import Derived.Test.YtcleahokjbeapaaDoorOpc
import Derived.Test.YtcleahokjbeapaaDoorExe
set_option linter.unusedVariables false
set_option linter.unusedSimpArgs false
set_option maxRecDepth 100000
set_option maxHeartbeats 0
namespace Go.Proofs.YtcleahokjbeapaaDoor
open Go.Abs
attribute [local irreducible] CallS Run RndS

def oneF : Fn := ⟨[], 0, 0, false, 0, [⟨18, 0, 0, 0, 0⟩], [], [], [], [], []⟩
def liveF : Fn := ⟨[], 0, 0, false, 0, [⟨18, 0, 0, 0, 0⟩], [], [], [oneF, oneF], [], []⟩
def insR : List V := [.int .i64 18, .int .i64 0, .int .i64 0, .int .i64 0, .int .i64 0]
def oneR : List V := [.str [], .int .i64 0, .int .i64 0, .bool false, .int .i64 0, .isl [insR], .isl [], .isl [], .isl [], .isl [], .isl []]
def liveR : List V := [.str [], .int .i64 0, .int .i64 0, .bool false, .int .i64 0, .isl [insR], .isl [], .isl [], .isl [oneR, oneR], .isl [], .isl []]
theorem one_row : oneF.row = oneR := by rw [Fn.row_eq]; rfl
theorem live_row : liveF.row = liveR := by
  rw [Fn.row_eq]
  simp only [liveF, List.map_cons, List.map_nil, one_row]
  rfl
theorem one_each : oneF.each = [oneF] := by rw [Fn.each_eq]; rfl
theorem live_each : liveF.each = [liveF, oneF, oneF] := by
  rw [Fn.each_eq]
  simp only [liveF, Fn.eachs, one_each]
  rfl
theorem live_bd : liveF.bd := by
  intro q hq
  rw [live_each] at hq
  simp only [List.mem_cons, List.not_mem_nil, or_false] at hq
  rcases hq with rfl | rfl | rfl <;> exact ⟨by decide, by decide, by decide, by decide, by decide, by decide⟩

theorem live_depth : Pure Tryd.prog 13 [.agg liveR] (.int .i64 (2 : Nat)) := Pure.execB (m := 1000) (d := 10) (fr := 1) exT_ok noLib_ok (by kernel_rfl)
theorem live_single : Pure Tryd.prog 15 [.agg liveR] (.int .i64 0) := Pure.execB (m := 5000) (d := 14) (fr := 1) exT_ok libF_ok (by kernel_rfl)
theorem one_single : Pure Tryd.prog 15 [.agg oneR] (.int .i64 0) := Pure.execB (m := 5000) (d := 14) (fr := 1) exT_ok libF_ok (by kernel_rfl)

theorem live_check : Pure Tryd.prog 5 [.agg liveR] (.int .i64 0) := by
  have := check_of liveF live_bd 2 (by rw [live_row]; exact live_depth) (fun _ => 0) (fun q hq => by
    rw [live_each] at hq
    simp only [List.mem_cons, List.not_mem_nil, or_false] at hq
    rcases hq with rfl | rfl | rfl
    · rw [live_row]; exact live_single
    · rw [one_row]; exact one_single
    · rw [one_row]; exact one_single)
  rw [live_row] at this
  have e : chkAll 2 (liveF.each.map fun _ => 0) = 0 := by
    unfold chkAll
    rw [if_neg (by decide)]
    exact firstNZ_zero (by simp)
  rwa [e] at this
theorem live_count : Pure Tryd.prog 16 [.agg liveR] (.int .i64 3) := by
  have := count_pure liveF live_bd (by rw [live_each]; decide)
  rw [live_row, live_each] at this
  exact this
theorem live_size : Pure Tryd.prog 17 [.agg liveR] (.int .i64 3) := by
  have := size_pure liveF live_bd (by rw [live_each]; decide)
  rw [live_row, live_each] at this
  exact this

theorem lives_pure : Pure Tryd.prog 6 [] (.bool true) := by
  refine Pure.of 0 (CallS.enter scriptinglaw33_lives_ok (Nat.le_of_ble_eq_true rfl) (Run.go 100 ?_))
  simp -implicitDefEqProofs only [go_sem, initSl]
  refine CallS.view live_check 3 (by simp -implicitDefEqProofs only [go_sem, liveR, oneR, insR]) rfl ?_
  simp -implicitDefEqProofs only [go_sem]
  refine CallS.view live_count 3 (by simp -implicitDefEqProofs only [go_sem, liveR, oneR, insR]) rfl ?_
  simp -implicitDefEqProofs only [go_sem]
  refine CallS.view live_size 3 (by simp -implicitDefEqProofs only [go_sem, liveR, oneR, insR]) rfl ?_
  simp -implicitDefEqProofs only [go_sem]
end Go.Proofs.YtcleahokjbeapaaDoor
