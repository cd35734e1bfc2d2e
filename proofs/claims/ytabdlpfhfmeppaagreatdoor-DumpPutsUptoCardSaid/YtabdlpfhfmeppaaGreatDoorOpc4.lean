/-
  What the reference's 'Check' answers: the same. No condition.
-/
import Derived.Test.YtabdlpfhfmeppaaGreatDoorOpc3
set_option linter.unusedVariables false
set_option linter.unusedSimpArgs false
set_option maxRecDepth 100000
set_option maxHeartbeats 0
namespace Go.Proofs.YtabdlpfhfmeppaaGreatDoor
open Go.Abs
attribute [local irreducible] CallS Run
-- EV: Ins.v, Ins.row, Shp.v, Shp.row, intsV, Ins.fs
theorem data_yes : ∀ n : Nat, 1 ≤ n → n ≤ 29 → Pure Tryz.prog 94 [.int .i64 n] (shpN n).v := by
  have key : ∀ n : Nat, n < 30 → (Nat.blt 0 n = true → eqR (exR Tryz.prog exT noLib 1000 5 1 94 [.int .i64 n]) (shpN n).v = true) := by
    have : (List.range 30).all (fun n => !Nat.blt 0 n || eqR (exR Tryz.prog exT noLib 1000 5 1 94 [.int .i64 n]) (shpN n).v) = true := by kernel_rfl
    intro n hn h0
    have := List.all_eq_true.1 this n (List.mem_range.2 hn)
    rw [h0] at this
    simpa using this
  intro n h1 h2
  exact Pure.execB (m := 1000) (d := 5) (fr := 1) exT_ok noLib_ok (key n (by omega) (Nat.ble_eq_true_of_le h1))
theorem none_pure (w : List UInt8) : Pure Tryz.prog 117 [.str w] (Shp.v ⟨w, false, false, false, false, 0, 0, 0, 0, 0, 0, 0, 0⟩) := by
  refine Pure.of 0 (CallS.enter scriptingref32_none_ok (Nat.le_of_ble_eq_true rfl) ?_)
  refine Run.go 100 ?_
  simp -implicitDefEqProofs only [go_sem, Ins.v, Ins.row, Shp.v, Shp.row, intsV, Ins.fs, initSl]
theorem later_no {op : Int} (h : ¬ (1 ≤ op ∧ op ≤ 29)) : Pure Tryz.prog 110 [.int .i64 op] (shp op).v := by
  have hs : shp op = ⟨[], false, false, false, false, 0, 0, 0, 0, 0, 0, 0, 0⟩ := by rw [shp, if_neg (by simp [isOp]; omega)]
  rw [hs]
  refine Pure.of 0 (CallS.enter scriptingref32_later_ok (Nat.le_of_ble_eq_true rfl) ?_)
  have e : ∀ k : Int, 1 ≤ k → k ≤ 29 → ¬ op = k := fun k h1 h2 hk => h (hk ▸ ⟨h1, h2⟩)
  refine Run.go 100 ?_
  simp -implicitDefEqProofs only [go_sem, Ins.v, Ins.row, Shp.v, Shp.row, intsV, Ins.fs, initSl, e 14 (by omega) (by omega), e 15 (by omega) (by omega), e 16 (by omega) (by omega), e 17 (by omega) (by omega), e 18 (by omega) (by omega), e 19 (by omega) (by omega), e 20 (by omega) (by omega), e 21 (by omega) (by omega), e 22 (by omega) (by omega), e 23 (by omega) (by omega), e 24 (by omega) (by omega), e 25 (by omega) (by omega), e 26 (by omega) (by omega), e 27 (by omega) (by omega), e 28 (by omega) (by omega), e 29 (by omega) (by omega)]
  refine CallS.pureF (none_pure []) (by simp -implicitDefEqProofs only [go_sem, Ins.v, Ins.row, Shp.v, Shp.row, intsV, Ins.fs]) ?_
  simp -implicitDefEqProofs only [go_sem, Ins.v, Ins.row, Shp.v, Shp.row, intsV, Ins.fs]
theorem data_no {op : Int} (h : ¬ (1 ≤ op ∧ op ≤ 29)) : Pure Tryz.prog 94 [.int .i64 op] (shp op).v := by
  refine Pure.of 0 (CallS.enter scriptingref32_data_ok (Nat.le_of_ble_eq_true rfl) ?_)
  have e : ∀ k : Int, 1 ≤ k → k ≤ 29 → ¬ op = k := fun k h1 h2 hk => h (hk ▸ ⟨h1, h2⟩)
  refine Run.go 100 ?_
  simp -implicitDefEqProofs only [go_sem, Ins.v, Ins.row, Shp.v, Shp.row, intsV, Ins.fs, initSl, e 1 (by omega) (by omega), e 2 (by omega) (by omega), e 3 (by omega) (by omega), e 4 (by omega) (by omega), e 5 (by omega) (by omega), e 6 (by omega) (by omega), e 7 (by omega) (by omega), e 8 (by omega) (by omega), e 9 (by omega) (by omega), e 10 (by omega) (by omega), e 11 (by omega) (by omega), e 12 (by omega) (by omega), e 13 (by omega) (by omega)]
  refine CallS.pureF (later_no h) (by simp -implicitDefEqProofs only [go_sem, Ins.v, Ins.row, Shp.v, Shp.row, intsV, Ins.fs]) ?_
  simp -implicitDefEqProofs only [go_sem, Ins.v, Ins.row, Shp.v, Shp.row, intsV, Ins.fs]
theorem data_pure (op : Int) : Pure Tryz.prog 94 [.int .i64 op] (shp op).v := by
  cases h : isOp op with
  | false => exact data_no (of_decide_eq_false h)
  | true =>
    obtain ⟨n, rfl, h1, h2⟩ := isOp_nat h
    have := data_yes n h1 h2
    rwa [show shp (n : Int) = shpN n by rw [shp, if_pos h]; rfl]
theorem rfields_pure (i : Ins) : Pure Tryz.prog 95 [i.v] (.agg (intsV i.fs)) := by
  refine Pure.of 0 (CallS.enter scriptingref32_fields_ok (Nat.le_of_ble_eq_true rfl) ?_)
  refine Run.go 100 ?_
  simp -implicitDefEqProofs only [go_sem, Ins.v, Ins.row, Shp.v, Shp.row, intsV, Ins.fs, initSl]
theorem rtarget_pure (i : Ins) : Pure Tryz.prog 78 [i.v] (.tup [.int .i64 (if isJump i.op then i.b else 0), .bool (isJump i.op)]) := by
  have hj : isJump i.op = decide (i.op = 14 ∨ i.op = 15 ∨ i.op = 23 ∨ i.op = 24 ∨ i.op = 26) := rfl
  rw [hj]
  refine Pure.of 0 (CallS.enter scriptingref32_Target_ok (Nat.le_of_ble_eq_true rfl) ?_)
  refine Run.go 100 ?_
  simp -implicitDefEqProofs only [go_sem, Ins.v, Ins.row, Shp.v, Shp.row, intsV, Ins.fs, initSl]
  repeat' (first | refine And.intro ?_ ?_ | refine fun h => ?_)
  all_goals simp_all
theorem limit_pure (i : Ins) (h0 : -1 ≤ i.a ∧ i.a ≤ 40000) (h1 : -1 ≤ i.b ∧ i.b ≤ 40000) (h2 : -1 ≤ i.c ∧ i.c ≤ 40000) :
    Pure Tryz.prog 96 [i.v] (.int .i64 (limitR i)) := by
  refine Pure.of 0 (CallS.enter scriptingref32_limit_ok (Nat.le_of_ble_eq_true rfl) ?_)
  refine Run.go 100 ?_
  simp -implicitDefEqProofs only [go_sem, Ins.v, Ins.row, Shp.v, Shp.row, intsV, Ins.fs, initSl]
  repeat' (first | refine And.intro ?_ ?_ | refine fun h => ?_)
  all_goals first
    | (split <;> omega)
    | omega
    | (unfold limitR mx mm2; simp [*]; done)
end Go.Proofs.YtabdlpfhfmeppaaGreatDoor
