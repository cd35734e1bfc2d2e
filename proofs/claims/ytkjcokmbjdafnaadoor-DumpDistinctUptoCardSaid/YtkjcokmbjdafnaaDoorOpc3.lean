/-
  What 'opcode.Check' answers. No condition.
-/
import Derived.Test.YtkjcokmbjdafnaaDoorOpc2
set_option linter.unusedVariables false
set_option linter.unusedSimpArgs false
set_option maxRecDepth 100000
set_option maxHeartbeats 0
namespace Go.Proofs.YtkjcokmbjdafnaaDoor
open Go.Abs
attribute [local irreducible] CallS Run
-- EV: Ins.v, Ins.row, Frm.v, Frm.row, intsV, Frm.ks, Ins.fs
theorem between_pureZ (k : Int) (h0 : 0 ≤ k) (h1 : k ≤ 12) : Pure Tryd.prog 66 [.int .i64 k] (.tup [.int .i64 (low k), .int .i64 (high k)]) := by
  obtain ⟨n, rfl⟩ := Int.eq_ofNat_of_zero_le h0
  exact between_pure n (by omega)
theorem last_pure (f : Frm) (i : Ins) (h0 : -1 ≤ i.a ∧ i.a ≤ 40000) (h1 : -1 ≤ i.b ∧ i.b ≤ 40000) (h2 : -1 ≤ i.c ∧ i.c ≤ 40000) (h3 : 0 ≤ f.room ∧ f.room ≤ 3) :
    Pure Tryd.prog 67 [f.v, i.v] (.int .i64 (lastR f i)) := by
  refine Pure.of 0 (CallS.enter opcode_last_ok (Nat.le_of_ble_eq_true rfl) ?_)
  refine Run.go 100 ?_
  simp -implicitDefEqProofs only [go_sem, Ins.v, Ins.row, Frm.v, Frm.row, intsV, Frm.ks, Ins.fs, initSl]
  repeat' (first | refine And.intro ?_ ?_ | refine fun h => ?_)
  all_goals first
    | omega
    | (unfold lastR mm2; simp [*]; done)
theorem frm_ok (op : Int) : (0 ≤ (frm op).a ∧ (frm op).a ≤ 12) ∧ (0 ≤ (frm op).b ∧ (frm op).b ≤ 12) ∧ (0 ≤ (frm op).c ∧ (frm op).c ≤ 12) ∧ (0 ≤ (frm op).d ∧ (frm op).d ≤ 12) ∧ 0 ≤ (frm op).room ∧ (frm op).room ≤ 3 := by
  cases h : isOp op with
  | false => rw [frm, if_neg (by rw [h]; simp)]; decide
  | true =>
    rcases op_cases h with rfl | rfl | rfl | rfl | rfl | rfl | rfl | rfl | rfl | rfl | rfl | rfl | rfl | rfl | rfl | rfl | rfl | rfl | rfl | rfl | rfl | rfl | rfl | rfl | rfl | rfl | rfl | rfl | rfl <;> decide
theorem kind_range : ∀ k : Nat, k ≤ 12 → -1 ≤ low k ∧ high k ≤ 32767 := by
  intro k hk
  have : ∀ k : Fin 13, -1 ≤ low (k.val : Int) ∧ high (k.val : Int) ≤ 32767 := by decide
  exact this ⟨k, by omega⟩
theorem fit2_range {k x : Int} (h0 : 0 ≤ k) (h1 : k ≤ 12) (h : fit2 k x = true) : -1 ≤ x ∧ x ≤ 40000 := by
  obtain ⟨n, rfl⟩ := Int.eq_ofNat_of_zero_le h0
  have := kind_range n (by omega)
  have := of_decide_eq_true h
  omega
def chkF (f : Frm) (i : Ins) : Int :=
  if (fit1 f.a i.a && fit1 f.b i.b && fit1 f.c i.c && fit1 f.d i.d) = false then 4
  else if (fit2 f.a i.a && fit2 f.b i.b && fit2 f.c i.c && fit2 f.d i.d) = false then 6
  else if f.a = 1 ∧ lastR f i ≥ 4096 ∨ i.op = 3 ∧ i.b < i.a then 6
  else 0
theorem chk_eq {i : Ins} (h : isOp i.op = true) : chk i = chkF (frm i.op) i := by
  unfold chk; rw [if_neg (by rw [h]; simp)]; rfl
def n4 (j : Nat) (a b c d : Bool) : Prop := (0 < j → a = true) ∧ (1 < j → b = true) ∧ (2 < j → c = true) ∧ (3 < j → d = true)
theorem check_pure (i : Ins) : Pure Tryd.prog 53 [i.v] (.int .i64 (chk i)) := by
  refine Pure.of 0 (CallS.enter opcode_Check_ok (Nat.le_of_ble_eq_true rfl) ?_)
  refine Run.go 100 ?_
  simp -implicitDefEqProofs only [go_sem, Ins.v, Ins.row, Frm.v, Frm.row, intsV, Frm.ks, Ins.fs, initSl]
  refine CallS.pureF (of_pure i.op) (by simp -implicitDefEqProofs only [go_sem, Ins.v, Ins.row, Frm.v, Frm.row, intsV, Frm.ks, Ins.fs]) ?_
  simp -implicitDefEqProofs only [go_sem, Ins.v, Ins.row, Frm.v, Frm.row, intsV, Frm.ks, Ins.fs]
  refine ⟨fun h => ?_, fun h => ?_⟩
  · unfold chk; rw [if_pos (by simpa using h)]
  refine CallS.pureF (fieldsP_pure (frm i.op) i) (by simp -implicitDefEqProofs only [go_sem, Ins.v, Ins.row, Frm.v, Frm.row, intsV, Frm.ks, Ins.fs]) ?_
  simp -implicitDefEqProofs only [go_sem, Ins.v, Ins.row, Frm.v, Frm.row, intsV, Frm.ks, Ins.fs]
  rw [chk_eq (by simpa using h)]
  obtain ⟨ka, kb, kc, kd, kr⟩ := frm_ok i.op
  generalize frm i.op = f at ka kb kc kd kr ⊢
  refine Run.rounds (fun (j : Nat) => ⟨[(28, .int .i64 j), (27, .agg [.int .i64 f.a, .int .i64 f.b, .int .i64 f.c, .int .i64 f.d]), (6, .ptr (53 * 10000 + 6) 3 0 0), (5, .ptr (53 * 10000 + 5) 2 0 0), (3, .ptr (53 * 10000 + 3) 1 0 0), (1, .ptr (53 * 10000 + 1) 0 0 0)],
    [((53 * 10000 + 6), 3, .rows 4 [[.int .i64 i.a, .int .i64 i.b, .int .i64 i.c, .int .i64 i.d]]), ((53 * 10000 + 5), 2, .rows 4 [[.int .i64 f.a, .int .i64 f.b, .int .i64 f.c, .int .i64 f.d]]), ((53 * 10000 + 3), 1, .rows 6 [f.row]), ((53 * 10000 + 1), 0, .rows 5 [i.row])], 4⟩)
    (fun j => j ≤ 4 ∧ n4 j (fit1 f.a i.a) (fit1 f.b i.b) (fit1 f.c i.c) (fit1 f.d i.d)) (fun j => 4 - j) 0 (by simp -implicitDefEqProofs only [go_sem, Ins.v, Ins.row, Frm.v, Frm.row, intsV, Frm.ks, Ins.fs]) ⟨by omega, by simp [n4]⟩ ?_
  rintro j ⟨hj, h1⟩ ih
  have hcase : j = 0 ∨ j = 1 ∨ j = 2 ∨ j = 3 ∨ j = 4 := by omega
  rcases hcase with rfl | rfl | rfl | rfl | rfl
  rotate_left 4
  · clear ih
    obtain ⟨q1, q2, q3, q4⟩ := h1
    have g1 := q1 (by omega)
    have g2 := q2 (by omega)
    have g3 := q3 (by omega)
    have g4 := q4 (by omega)
    clear q1 q2 q3 q4
    refine Run.unf opcode_Check_l0_eq (Run.go 100 ?_)
    simp -implicitDefEqProofs only [go_sem, Ins.v, Ins.row, Frm.v, Frm.row, intsV, Frm.ks, Ins.fs]
    refine Run.rounds (fun (j : Nat) => ⟨[(42, .int .i64 j), (41, .agg [.int .i64 f.a, .int .i64 f.b, .int .i64 f.c, .int .i64 f.d]), (6, .ptr (53 * 10000 + 6) 3 0 0), (3, .ptr (53 * 10000 + 3) 1 0 0), (1, .ptr (53 * 10000 + 1) 0 0 0)],
      [((53 * 10000 + 6), 3, .rows 4 [[.int .i64 i.a, .int .i64 i.b, .int .i64 i.c, .int .i64 i.d]]), ((53 * 10000 + 3), 1, .rows 6 [f.row]), ((53 * 10000 + 1), 0, .rows 5 [i.row])], 4⟩)
      (fun j => j ≤ 4 ∧ n4 j (fit2 f.a i.a) (fit2 f.b i.b) (fit2 f.c i.c) (fit2 f.d i.d)) (fun j => 4 - j) 0 (by simp -implicitDefEqProofs only [go_sem, Ins.v, Ins.row, Frm.v, Frm.row, intsV, Frm.ks, Ins.fs]) ⟨by omega, by simp [n4]⟩ ?_
    rintro j ⟨hj, h1⟩ ih
    have hcase : j = 0 ∨ j = 1 ∨ j = 2 ∨ j = 3 ∨ j = 4 := by omega
    rcases hcase with rfl | rfl | rfl | rfl | rfl
    rotate_left 4
    · clear ih
      obtain ⟨q1, q2, q3, q4⟩ := h1
      have r1 := q1 (by omega)
      have r2 := q2 (by omega)
      have r3 := q3 (by omega)
      have r4 := q4 (by omega)
      clear q1 q2 q3 q4
      have ra := fit2_range ka.1 ka.2 r1
      have rb := fit2_range kb.1 kb.2 r2
      have rc := fit2_range kc.1 kc.2 r3
      have hc : chkF f i = if f.a = 1 ∧ lastR f i ≥ 4096 ∨ i.op = 3 ∧ i.b < i.a then 6 else 0 := by
        unfold chkF; rw [g1, g2, g3, g4, r1, r2, r3, r4]; simp
      rw [hc]
      refine Run.unf opcode_Check_l1_eq (Run.go 100 ?_)
      simp -implicitDefEqProofs only [go_sem, Ins.v, Ins.row, Frm.v, Frm.row, intsV, Frm.ks, Ins.fs]
      refine ⟨fun c1 => ?_, fun c1 => ?_⟩
      · refine CallS.pureF (last_pure f i ra rb rc kr) (by simp -implicitDefEqProofs only [go_sem, Ins.v, Ins.row, Frm.v, Frm.row, intsV, Frm.ks, Ins.fs]) ?_
        simp -implicitDefEqProofs only [go_sem, Ins.v, Ins.row, Frm.v, Frm.row, intsV, Frm.ks, Ins.fs]
        repeat' (first | refine And.intro ?_ ?_ | refine fun h => ?_)
        all_goals (simp [*]; try omega)
      · repeat' (first | refine And.intro ?_ ?_ | refine fun h => ?_)
        all_goals (simp [*]; try omega)
    all_goals (
      refine Run.unf opcode_Check_l1_eq (Run.go 100 ?_)
      simp -implicitDefEqProofs only [go_sem, Ins.v, Ins.row, Frm.v, Frm.row, intsV, Frm.ks, Ins.fs]
      obtain ⟨q1, q2, q3, q4⟩ := h1)
    · refine CallS.pureF (between_pureZ f.a ka.1 ka.2) (by simp -implicitDefEqProofs only [go_sem, Ins.v, Ins.row, Frm.v, Frm.row, intsV, Frm.ks, Ins.fs]) ?_
      simp -implicitDefEqProofs only [go_sem, Ins.v, Ins.row, Frm.v, Frm.row, intsV, Frm.ks, Ins.fs]
      have no : ¬ (low f.a ≤ i.a ∧ i.a ≤ high f.a) → 6 = chkF f i := fun hn => by unfold chkF; rw [g1, g2, g3, g4, show fit2 f.a i.a = false from decide_eq_false hn]; simp
      exact ⟨fun c => ⟨fun c2 => no (by omega), fun c2 => ih _ 1 ⟨by omega, fun _ => decide_eq_true ⟨by omega, by omega⟩, by omega, by omega, by omega⟩ (by omega) (by simp -implicitDefEqProofs only [go_sem, Ins.v, Ins.row, Frm.v, Frm.row, intsV, Frm.ks, Ins.fs])⟩, fun c => no (by omega)⟩
    · have r1 := q1 (by omega)
      refine CallS.pureF (between_pureZ f.b kb.1 kb.2) (by simp -implicitDefEqProofs only [go_sem, Ins.v, Ins.row, Frm.v, Frm.row, intsV, Frm.ks, Ins.fs]) ?_
      simp -implicitDefEqProofs only [go_sem, Ins.v, Ins.row, Frm.v, Frm.row, intsV, Frm.ks, Ins.fs]
      have no : ¬ (low f.b ≤ i.b ∧ i.b ≤ high f.b) → 6 = chkF f i := fun hn => by unfold chkF; rw [g1, g2, g3, g4, r1, show fit2 f.b i.b = false from decide_eq_false hn]; simp
      exact ⟨fun c => ⟨fun c2 => no (by omega), fun c2 => ih _ 2 ⟨by omega, fun _ => q1 (by omega), fun _ => decide_eq_true ⟨by omega, by omega⟩, by omega, by omega⟩ (by omega) (by simp -implicitDefEqProofs only [go_sem, Ins.v, Ins.row, Frm.v, Frm.row, intsV, Frm.ks, Ins.fs])⟩, fun c => no (by omega)⟩
    · have r1 := q1 (by omega)
      have r2 := q2 (by omega)
      refine CallS.pureF (between_pureZ f.c kc.1 kc.2) (by simp -implicitDefEqProofs only [go_sem, Ins.v, Ins.row, Frm.v, Frm.row, intsV, Frm.ks, Ins.fs]) ?_
      simp -implicitDefEqProofs only [go_sem, Ins.v, Ins.row, Frm.v, Frm.row, intsV, Frm.ks, Ins.fs]
      have no : ¬ (low f.c ≤ i.c ∧ i.c ≤ high f.c) → 6 = chkF f i := fun hn => by unfold chkF; rw [g1, g2, g3, g4, r1, r2, show fit2 f.c i.c = false from decide_eq_false hn]; simp
      exact ⟨fun c => ⟨fun c2 => no (by omega), fun c2 => ih _ 3 ⟨by omega, fun _ => q1 (by omega), fun _ => q2 (by omega), fun _ => decide_eq_true ⟨by omega, by omega⟩, by omega⟩ (by omega) (by simp -implicitDefEqProofs only [go_sem, Ins.v, Ins.row, Frm.v, Frm.row, intsV, Frm.ks, Ins.fs])⟩, fun c => no (by omega)⟩
    · have r1 := q1 (by omega)
      have r2 := q2 (by omega)
      have r3 := q3 (by omega)
      refine CallS.pureF (between_pureZ f.d kd.1 kd.2) (by simp -implicitDefEqProofs only [go_sem, Ins.v, Ins.row, Frm.v, Frm.row, intsV, Frm.ks, Ins.fs]) ?_
      simp -implicitDefEqProofs only [go_sem, Ins.v, Ins.row, Frm.v, Frm.row, intsV, Frm.ks, Ins.fs]
      have no : ¬ (low f.d ≤ i.d ∧ i.d ≤ high f.d) → 6 = chkF f i := fun hn => by unfold chkF; rw [g1, g2, g3, g4, r1, r2, r3, show fit2 f.d i.d = false from decide_eq_false hn]; simp
      exact ⟨fun c => ⟨fun c2 => no (by omega), fun c2 => ih _ 4 ⟨by omega, fun _ => q1 (by omega), fun _ => q2 (by omega), fun _ => q3 (by omega), fun _ => decide_eq_true ⟨by omega, by omega⟩⟩ (by omega) (by simp -implicitDefEqProofs only [go_sem, Ins.v, Ins.row, Frm.v, Frm.row, intsV, Frm.ks, Ins.fs])⟩, fun c => no (by omega)⟩
  all_goals (
    refine Run.unf opcode_Check_l0_eq (Run.go 100 ?_)
    simp -implicitDefEqProofs only [go_sem, Ins.v, Ins.row, Frm.v, Frm.row, intsV, Frm.ks, Ins.fs]
    obtain ⟨q1, q2, q3, q4⟩ := h1)
  · have no : ¬ (f.a = 0 → i.a = 0) → 4 = chkF f i := fun hn => by unfold chkF; rw [show fit1 f.a i.a = false from decide_eq_false hn]; simp
    exact ⟨fun c => ⟨fun c2 => no (fun h => c2 (h c)), fun c2 => ih _ 1 ⟨by omega, fun _ => decide_eq_true fun _ => c2, by omega, by omega, by omega⟩ (by omega) (by simp -implicitDefEqProofs only [go_sem, Ins.v, Ins.row, Frm.v, Frm.row, intsV, Frm.ks, Ins.fs])⟩,
      fun c => ih _ 1 ⟨by omega, fun _ => decide_eq_true fun h => absurd h c, by omega, by omega, by omega⟩ (by omega) (by simp -implicitDefEqProofs only [go_sem, Ins.v, Ins.row, Frm.v, Frm.row, intsV, Frm.ks, Ins.fs])⟩
  · have r1 := q1 (by omega)
    have no : ¬ (f.b = 0 → i.b = 0) → 4 = chkF f i := fun hn => by unfold chkF; rw [r1, show fit1 f.b i.b = false from decide_eq_false hn]; simp
    exact ⟨fun c => ⟨fun c2 => no (fun h => c2 (h c)), fun c2 => ih _ 2 ⟨by omega, fun _ => q1 (by omega), fun _ => decide_eq_true fun _ => c2, by omega, by omega⟩ (by omega) (by simp -implicitDefEqProofs only [go_sem, Ins.v, Ins.row, Frm.v, Frm.row, intsV, Frm.ks, Ins.fs])⟩,
      fun c => ih _ 2 ⟨by omega, fun _ => q1 (by omega), fun _ => decide_eq_true fun h => absurd h c, by omega, by omega⟩ (by omega) (by simp -implicitDefEqProofs only [go_sem, Ins.v, Ins.row, Frm.v, Frm.row, intsV, Frm.ks, Ins.fs])⟩
  · have r1 := q1 (by omega)
    have r2 := q2 (by omega)
    have no : ¬ (f.c = 0 → i.c = 0) → 4 = chkF f i := fun hn => by unfold chkF; rw [r1, r2, show fit1 f.c i.c = false from decide_eq_false hn]; simp
    exact ⟨fun c => ⟨fun c2 => no (fun h => c2 (h c)), fun c2 => ih _ 3 ⟨by omega, fun _ => q1 (by omega), fun _ => q2 (by omega), fun _ => decide_eq_true fun _ => c2, by omega⟩ (by omega) (by simp -implicitDefEqProofs only [go_sem, Ins.v, Ins.row, Frm.v, Frm.row, intsV, Frm.ks, Ins.fs])⟩,
      fun c => ih _ 3 ⟨by omega, fun _ => q1 (by omega), fun _ => q2 (by omega), fun _ => decide_eq_true fun h => absurd h c, by omega⟩ (by omega) (by simp -implicitDefEqProofs only [go_sem, Ins.v, Ins.row, Frm.v, Frm.row, intsV, Frm.ks, Ins.fs])⟩
  · have r1 := q1 (by omega)
    have r2 := q2 (by omega)
    have r3 := q3 (by omega)
    have no : ¬ (f.d = 0 → i.d = 0) → 4 = chkF f i := fun hn => by unfold chkF; rw [r1, r2, r3, show fit1 f.d i.d = false from decide_eq_false hn]; simp
    exact ⟨fun c => ⟨fun c2 => no (fun h => c2 (h c)), fun c2 => ih _ 4 ⟨by omega, fun _ => q1 (by omega), fun _ => q2 (by omega), fun _ => q3 (by omega), fun _ => decide_eq_true fun _ => c2⟩ (by omega) (by simp -implicitDefEqProofs only [go_sem, Ins.v, Ins.row, Frm.v, Frm.row, intsV, Frm.ks, Ins.fs])⟩,
      fun c => ih _ 4 ⟨by omega, fun _ => q1 (by omega), fun _ => q2 (by omega), fun _ => q3 (by omega), fun _ => decide_eq_true fun h => absurd h c⟩ (by omega) (by simp -implicitDefEqProofs only [go_sem, Ins.v, Ins.row, Frm.v, Frm.row, intsV, Frm.ks, Ins.fs])⟩
end Go.Proofs.YtkjcokmbjdafnaaDoor
