/-
  What the functions on instructions answer: forms, bounds, fields. No condition.
-/
import Derived.Test.YtkjcokmbjdafnaaDoorOpc
set_option linter.unusedVariables false
set_option linter.unusedSimpArgs false
set_option maxRecDepth 100000
set_option maxHeartbeats 0
namespace Go.Proofs.YtkjcokmbjdafnaaDoor
open Go.Abs
attribute [local irreducible] CallS Run
-- EV: Ins.v, Ins.row, Frm.v, Frm.row
def intsV (l : List Int) : List V := l.map fun z => .int .i64 z
theorem of_yes : ∀ n : Nat, 1 ≤ n → n ≤ 29 → Pure Tryd.prog 64 [.int .i64 n] (.tup [(frmN n).v, .bool true]) := by
  have key : ∀ n : Nat, n < 30 → (Nat.blt 0 n = true → eqR (exR Tryd.prog exT libF 1000 5 1 64 [.int .i64 n]) (.tup [(frmN n).v, .bool true]) = true) := by
    have : (List.range 30).all (fun n => !Nat.blt 0 n || eqR (exR Tryd.prog exT libF 1000 5 1 64 [.int .i64 n]) (.tup [(frmN n).v, .bool true])) = true := by kernel_rfl
    intro n hn h0
    have := List.all_eq_true.1 this n (List.mem_range.2 hn)
    rw [h0] at this
    simpa using this
  intro n h1 h2
  exact Pure.execB (m := 1000) (d := 5) (fr := 1) exT_ok libF_ok (key n (by omega) (Nat.ble_eq_true_of_le h1))
theorem of_no {op : Int} (h : isOp op = false) : Pure Tryd.prog 64 [.int .i64 op] (.tup [(frm op).v, .bool false]) := by
  refine Pure.of 0 (CallS.enter opcode_of_ok (Nat.le_of_ble_eq_true rfl) ?_)
  refine Run.go 100 ?_
  simp -implicitDefEqProofs only [go_sem, Ins.v, Ins.row, Frm.v, Frm.row, initSl]
  refine CallS.pureF (r := wordsV) fields_pure rfl ?_
  have hno := of_decide_eq_false h
  have hf : frm op = ⟨[], 0, 0, 0, 0, 0⟩ := by rw [frm, if_neg (by rw [h]; simp)]
  rw [hf]
  have hw : (wordT.map fun w => [V.str w]).length = 29 := rfl
  simp -implicitDefEqProofs only [go_sem, Ins.v, Ins.row, Frm.v, Frm.row, wordsV, hw]
  omega
theorem of_pure (op : Int) : Pure Tryd.prog 64 [.int .i64 op] (.tup [(frm op).v, .bool (isOp op)]) := by
  cases h : isOp op with
  | false => exact of_no h
  | true =>
    obtain ⟨n, rfl, h1, h2⟩ := isOp_nat h
    have := of_yes n h1 h2
    rwa [show frm (n : Int) = frmN n by rw [frm, if_pos h]; rfl]
theorem between_pure : ∀ n : Nat, n ≤ 12 → Pure Tryd.prog 66 [.int .i64 n] (.tup [.int .i64 (low n), .int .i64 (high n)]) := by
  have this : (List.range 13).all (fun n => eqR (exR Tryd.prog exT noLib 1000 5 1 66 [.int .i64 n]) (.tup [.int .i64 (low n), .int .i64 (high n)])) = true := by kernel_rfl
  intro n h2
  exact Pure.execB (m := 1000) (d := 5) (fr := 1) exT_ok noLib_ok (List.all_eq_true.1 this n (List.mem_range.2 (by omega)))
theorem fieldsP_pure (f : Frm) (i : Ins) : Pure Tryd.prog 65 [f.v, i.v] (.tup [.agg (intsV f.ks), .agg (intsV i.fs)]) := by
  refine Pure.of 0 (CallS.enter opcode_fields_ok (Nat.le_of_ble_eq_true rfl) ?_)
  refine Run.go 100 ?_
  simp -implicitDefEqProofs only [go_sem, Ins.v, Ins.row, Frm.v, Frm.row, initSl, intsV, Frm.ks, Ins.fs]
theorem target_pure (i : Ins) : Pure Tryd.prog 57 [i.v] (.tup [.int .i64 (if isJump i.op then i.b else 0), .bool (isJump i.op)]) := by
  have hj : isJump i.op = decide (i.op = 14 ∨ i.op = 15 ∨ i.op = 23 ∨ i.op = 24 ∨ i.op = 26) := rfl
  rw [hj]
  refine Pure.of 0 (CallS.enter opcode_Target_ok (Nat.le_of_ble_eq_true rfl) ?_)
  refine Run.go 100 ?_
  simp -implicitDefEqProofs only [go_sem, Ins.v, Ins.row, Frm.v, Frm.row, initSl]
  repeat' (first | refine And.intro ?_ ?_ | refine fun h => ?_)
  all_goals simp_all
end Go.Proofs.YtkjcokmbjdafnaaDoor
