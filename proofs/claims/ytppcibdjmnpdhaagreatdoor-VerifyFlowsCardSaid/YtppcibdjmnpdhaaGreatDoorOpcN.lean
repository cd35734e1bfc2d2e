/-
  opcode.Check, as the reference has it. No condition.
-/
import Derived.Test.YtppcibdjmnpdhaaGreatDoorOpc3
set_option linter.unusedVariables false
set_option linter.unusedSimpArgs false
set_option maxRecDepth 100000
set_option maxHeartbeats 0
namespace Go.Proofs.YtppcibdjmnpdhaaGreatDoor
open Go.Abs
attribute [local irreducible] CallS Run
-- EV: Ins.v, Ins.row, Shp.v, Shp.row, intsV, Ins.fs
attribute [local go_sem] Ins.v Ins.row Shp.v Shp.row intsV Ins.fs
-- EV: Ins.v, Ins.row, Shp.v, Shp.row, intsV, Ins.fs
theorem data_yes : ∀ n : Nat, 1 ≤ n → n ≤ 29 → Pure Tryz.prog 40 [.int .i64 n] (shpN n).v := by
  have key : ∀ n : Nat, n < 30 → (Nat.blt 0 n = true → eqR (exR Tryz.prog exT noLib 1000 5 1 40 [.int .i64 n]) (shpN n).v = true) := by
    have : (List.range 30).all (fun n => !Nat.blt 0 n || eqR (exR Tryz.prog exT noLib 1000 5 1 40 [.int .i64 n]) (shpN n).v) = true := by kernel_rfl
    intro n hn h0
    have := List.all_eq_true.1 this n (List.mem_range.2 hn)
    rw [h0] at this
    simpa using this
  intro n h1 h2
  exact Pure.execB (m := 1000) (d := 5) (fr := 1) exT_ok noLib_ok (key n (by omega) (Nat.ble_eq_true_of_le h1))
theorem none_pure (w : List UInt8) : Pure Tryz.prog 92 [.str w] (Shp.v ⟨w, false, false, false, false, 0, 0, 0, 0, 0, 0, 0, 0⟩) := by
  refine Pure.of 0 (CallS.enter scriptingref32_none_ok (Nat.le_of_ble_eq_true rfl) ?_)
  refine Run.go 100 ?_
  simp -implicitDefEqProofs only [go_sem, initSl]
theorem later_no {op : Int} (h : ¬ (1 ≤ op ∧ op ≤ 29)) : Pure Tryz.prog 63 [.int .i64 op] (shp op).v := by
  have hs : shp op = ⟨[], false, false, false, false, 0, 0, 0, 0, 0, 0, 0, 0⟩ := by rw [shp, if_neg (by simp [isOp]; omega)]
  rw [hs]
  refine Pure.of 0 (CallS.enter scriptingref32_later_ok (Nat.le_of_ble_eq_true rfl) ?_)
  have e : ∀ k : Int, 1 ≤ k → k ≤ 29 → ¬ op = k := fun k h1 h2 hk => h (hk ▸ ⟨h1, h2⟩)
  refine Run.go 100 ?_
  simp -implicitDefEqProofs only [go_sem, initSl, e 14 (by omega) (by omega), e 15 (by omega) (by omega), e 16 (by omega) (by omega), e 17 (by omega) (by omega), e 18 (by omega) (by omega), e 19 (by omega) (by omega), e 20 (by omega) (by omega), e 21 (by omega) (by omega), e 22 (by omega) (by omega), e 23 (by omega) (by omega), e 24 (by omega) (by omega), e 25 (by omega) (by omega), e 26 (by omega) (by omega), e 27 (by omega) (by omega), e 28 (by omega) (by omega), e 29 (by omega) (by omega)]
  refine CallS.pureF (none_pure []) (by simp -implicitDefEqProofs only [go_sem]) ?_
  simp -implicitDefEqProofs only [go_sem]
theorem data_no {op : Int} (h : ¬ (1 ≤ op ∧ op ≤ 29)) : Pure Tryz.prog 40 [.int .i64 op] (shp op).v := by
  refine Pure.of 0 (CallS.enter scriptingref32_data_ok (Nat.le_of_ble_eq_true rfl) ?_)
  have e : ∀ k : Int, 1 ≤ k → k ≤ 29 → ¬ op = k := fun k h1 h2 hk => h (hk ▸ ⟨h1, h2⟩)
  refine Run.go 100 ?_
  simp -implicitDefEqProofs only [go_sem, initSl, e 1 (by omega) (by omega), e 2 (by omega) (by omega), e 3 (by omega) (by omega), e 4 (by omega) (by omega), e 5 (by omega) (by omega), e 6 (by omega) (by omega), e 7 (by omega) (by omega), e 8 (by omega) (by omega), e 9 (by omega) (by omega), e 10 (by omega) (by omega), e 11 (by omega) (by omega), e 12 (by omega) (by omega), e 13 (by omega) (by omega)]
  refine CallS.pureF (later_no h) (by simp -implicitDefEqProofs only [go_sem]) ?_
  simp -implicitDefEqProofs only [go_sem]
theorem data_pure (op : Int) : Pure Tryz.prog 40 [.int .i64 op] (shp op).v := by
  cases h : isOp op with
  | false => exact data_no (of_decide_eq_false h)
  | true =>
    obtain ⟨n, rfl, h1, h2⟩ := isOp_nat h
    have := data_yes n h1 h2
    rwa [show shp (n : Int) = shpN n by rw [shp, if_pos h]; rfl]
theorem rfields_pure (i : Ins) : Pure Tryz.prog 41 [i.v] (.agg (intsV i.fs)) := by
  refine Pure.of 0 (CallS.enter scriptingref32_fields_ok (Nat.le_of_ble_eq_true rfl) ?_)
  refine Run.go 100 ?_
  simp -implicitDefEqProofs only [go_sem, initSl]
theorem rtarget_pure (i : Ins) : Pure Tryz.prog 22 [i.v] (.tup [.int .i64 (if isJump i.op then i.b else 0), .bool (isJump i.op)]) := by
  have hj : isJump i.op = decide (i.op = 14 ∨ i.op = 15 ∨ i.op = 23 ∨ i.op = 24 ∨ i.op = 26) := rfl
  rw [hj]
  refine Pure.of 0 (CallS.enter scriptingref32_Target_ok (Nat.le_of_ble_eq_true rfl) ?_)
  refine Run.go 100 ?_
  simp -implicitDefEqProofs only [go_sem, initSl]
  repeat' (first | refine And.intro ?_ ?_ | refine fun h => ?_)
  all_goals simp_all
theorem limit_pure (i : Ins) (h0 : -1 ≤ i.a ∧ i.a ≤ 40000) (h1 : -1 ≤ i.b ∧ i.b ≤ 40000) (h2 : -1 ≤ i.c ∧ i.c ≤ 40000) :
    Pure Tryz.prog 42 [i.v] (.int .i64 (limitR i)) := by
  refine Pure.of 0 (CallS.enter scriptingref32_limit_ok (Nat.le_of_ble_eq_true rfl) ?_)
  refine Run.go 100 ?_
  simp -implicitDefEqProofs only [go_sem, initSl]
  repeat' (first | refine And.intro ?_ ?_ | refine fun h => ?_)
  all_goals first
    | (split <;> omega)
    | omega
    | (unfold limitR mx mm2; simp [*]; done)
-- EV: Ins.v, Ins.row, Shp.v, Shp.row, intsV, Ins.fs
def rchkF (s : Shp) (i : Ins) : Int :=
  if (rfit1 s.ha i.a && rfit1 s.hb i.b && rfit1 s.hc i.c && rfit1 s.hd i.d) = false then 4
  else if (rfit2 s.ha s.la s.ma i.a && rfit2 s.hb s.lb s.mb i.b && rfit2 s.hc s.lc s.mc i.c && rfit2 s.hd s.ld s.md i.d) = false then 6
  else if i.op = 3 ∧ i.b < i.a ∨ limitR i > 4095 then 6
  else 0
theorem rchk_eqF {i : Ins} (h : isOp i.op = true) : rchk i = rchkF (shp i.op) i := by
  unfold rchk; rw [if_neg (by rw [h]; simp)]; rfl
theorem shp_ok (op : Int) : (-1 ≤ (shp op).la ∧ (shp op).ma ≤ 40000) ∧ (-1 ≤ (shp op).lb ∧ (shp op).mb ≤ 40000) ∧ (-1 ≤ (shp op).lc ∧ (shp op).mc ≤ 40000) ∧ (isOp op = true → (shp op).word ≠ []) ∧ (isOp op = false → (shp op).word = []) := by
  cases h : isOp op with
  | false => rw [shp, if_neg (by rw [h]; simp)]; simp
  | true =>
    rcases op_cases h with rfl | rfl | rfl | rfl | rfl | rfl | rfl | rfl | rfl | rfl | rfl | rfl | rfl | rfl | rfl | rfl | rfl | rfl | rfl | rfl | rfl | rfl | rfl | rfl | rfl | rfl | rfl | rfl | rfl <;> simp <;> decide
theorem rrange {h : Bool} {l m x : Int} (h1 : rfit1 h x = true) (h2 : rfit2 h l m x = true) (hl : -1 ≤ l) (hm : m ≤ 40000) : -1 ≤ x ∧ x ≤ 40000 := by
  cases h <;> simp [rfit1, rfit2] at h1 h2 <;> omega
theorem rcheck_pure0 (i : Ins) : Pure Tryz.prog 25 [i.v] (.int .i64 (rchk i)) := by
  refine Pure.of 0 (CallS.enter scriptingref32_Check_ok (Nat.le_of_ble_eq_true rfl) ?_)
  refine Run.go 100 ?_
  simp -implicitDefEqProofs only [go_sem, initSl]
  refine CallS.pureF (data_pure i.op) (by simp -implicitDefEqProofs only [go_sem]) ?_
  simp -implicitDefEqProofs only [go_sem]
  refine CallS.pureF (rfields_pure i) (by simp -implicitDefEqProofs only [go_sem]) ?_
  simp -implicitDefEqProofs only [go_sem]
  obtain ⟨wa, wb, wc, w1, w0⟩ := shp_ok i.op
  refine ⟨fun h => ?_, fun h => ?_⟩
  · cases hi : isOp i.op with
    | true => exact absurd h (w1 hi)
    | false => unfold rchk; rw [if_pos hi]
  have hi : isOp i.op = true := by
    cases hi : isOp i.op with
    | true => rfl
    | false => exact absurd (w0 hi) h
  rw [rchk_eqF hi]
  clear h w1 w0
  generalize shp i.op = s at wa wb wc ⊢
  refine Run.rounds (fun (j : Nat) => ⟨[(5, .int .i64 j), (4, .ptr (25 * 10000 + 4) 2 0 0), (3, .ptr (25 * 10000 + 3) 1 0 0), (1, .ptr (25 * 10000 + 1) 0 0 0)], [((25 * 10000 + 4), 2, .rows 4 [[.int .i64 i.a, .int .i64 i.b, .int .i64 i.c, .int .i64 i.d]]), ((25 * 10000 + 3), 1, .rows 13 [s.row]), ((25 * 10000 + 1), 0, .rows 5 [i.row])], 3⟩)
    (fun j => j ≤ 4 ∧ n4 j (rfit1 s.ha i.a) (rfit1 s.hb i.b) (rfit1 s.hc i.c) (rfit1 s.hd i.d)) (fun j => 4 - j) 0 (by simp -implicitDefEqProofs only [go_sem]) ⟨by omega, by simp [n4]⟩ ?_
  rintro j ⟨hj, h1⟩ ih
  have hcase : j = 0 ∨ j = 1 ∨ j = 2 ∨ j = 3 ∨ j = 4 := by omega
  rcases hcase with rfl | rfl | rfl | rfl | rfl
  rotate_left 4
  · clear ih
    obtain ⟨q1, q2, q3, q4⟩ := h1
    have g1 := q1 (by omega)
    have g2 := q2 (by omega)
    have g3 := q3 (by omega)
    have g4 := q4 (by omega)
    clear q1 q2 q3 q4
    refine Run.unf scriptingref32_Check_l0_eq (Run.go 100 ?_)
    simp -implicitDefEqProofs only [go_sem]
    refine Run.rounds (fun (j : Nat) => ⟨[(6, .int .i64 j), (4, .ptr (25 * 10000 + 4) 2 0 0), (3, .ptr (25 * 10000 + 3) 1 0 0), (1, .ptr (25 * 10000 + 1) 0 0 0)], [((25 * 10000 + 4), 2, .rows 4 [[.int .i64 i.a, .int .i64 i.b, .int .i64 i.c, .int .i64 i.d]]), ((25 * 10000 + 3), 1, .rows 13 [s.row]), ((25 * 10000 + 1), 0, .rows 5 [i.row])], 3⟩)
      (fun j => j ≤ 4 ∧ n4 j (rfit2 s.ha s.la s.ma i.a) (rfit2 s.hb s.lb s.mb i.b) (rfit2 s.hc s.lc s.mc i.c) (rfit2 s.hd s.ld s.md i.d)) (fun j => 4 - j) 0 (by simp -implicitDefEqProofs only [go_sem]) ⟨by omega, by simp [n4]⟩ ?_
    rintro j ⟨hj, h1⟩ ih
    have hcase : j = 0 ∨ j = 1 ∨ j = 2 ∨ j = 3 ∨ j = 4 := by omega
    rcases hcase with rfl | rfl | rfl | rfl | rfl
    rotate_left 4
    · clear ih
      obtain ⟨q1, q2, q3, q4⟩ := h1
      have r1 := q1 (by omega)
      have r2 := q2 (by omega)
      have r3 := q3 (by omega)
      have r4 := q4 (by omega)
      clear q1 q2 q3 q4
      have ra := rrange g1 r1 wa.1 wa.2
      have rb := rrange g2 r2 wb.1 wb.2
      have rc := rrange g3 r3 wc.1 wc.2
      have hc : rchkF s i = if i.op = 3 ∧ i.b < i.a ∨ limitR i > 4095 then 6 else 0 := by
        unfold rchkF; rw [g1, g2, g3, g4, r1, r2, r3, r4]; simp
      rw [hc]
      refine Run.unf scriptingref32_Check_l1_eq (Run.go 100 ?_)
      simp -implicitDefEqProofs only [go_sem]
      repeat' (first | refine And.intro ?_ ?_ | refine fun h => ?_)
      all_goals first
        | (simp [*]; done)
        | (refine CallS.pureF (limit_pure i ra rb rc) (by simp -implicitDefEqProofs only [go_sem]) ?_
           simp -implicitDefEqProofs only [go_sem]
           repeat' (first | refine And.intro ?_ ?_ | refine fun h => ?_)
           all_goals (simp [*]; try omega))
    · obtain ⟨q1, q2, q3, q4⟩ := h1
      refine Run.unf scriptingref32_Check_l1_eq (Run.go 100 ?_)
      simp -implicitDefEqProofs only [go_sem]
      have no : rfit2 s.ha s.la s.ma i.a = false → 6 = rchkF s i := fun hn => by unfold rchkF; rw [g1, g2, g3, g4, hn]; simp
      cases hh : s.ha <;> rw [hh] at no <;> simp -implicitDefEqProofs only [go_sem, hh]
      · exact ih _ 1 ⟨by omega, fun _ => by rw [hh]; rfl, by omega, by omega, by omega⟩ (by omega) (by simp -implicitDefEqProofs only [go_sem, hh])
      · repeat' (first | refine And.intro ?_ ?_ | refine fun h => ?_)
        all_goals first
          | exact no (by simp [rfit2]; omega)
          | exact ih _ 1 ⟨by omega, fun _ => by rw [hh]; simp [rfit2]; omega, by omega, by omega, by omega⟩ (by omega) (by simp -implicitDefEqProofs only [go_sem, hh])
    · obtain ⟨q1, q2, q3, q4⟩ := h1
      have r1 := q1 (by omega)
      refine Run.unf scriptingref32_Check_l1_eq (Run.go 100 ?_)
      simp -implicitDefEqProofs only [go_sem]
      have no : rfit2 s.hb s.lb s.mb i.b = false → 6 = rchkF s i := fun hn => by unfold rchkF; rw [g1, g2, g3, g4, r1, hn]; simp
      cases hh : s.hb <;> rw [hh] at no <;> simp -implicitDefEqProofs only [go_sem, hh]
      · exact ih _ 2 ⟨by omega, fun _ => q1 (by omega), fun _ => by rw [hh]; rfl, by omega, by omega⟩ (by omega) (by simp -implicitDefEqProofs only [go_sem, hh])
      · repeat' (first | refine And.intro ?_ ?_ | refine fun h => ?_)
        all_goals first
          | exact no (by simp [rfit2]; omega)
          | exact ih _ 2 ⟨by omega, fun _ => q1 (by omega), fun _ => by rw [hh]; simp [rfit2]; omega, by omega, by omega⟩ (by omega) (by simp -implicitDefEqProofs only [go_sem, hh])
    · obtain ⟨q1, q2, q3, q4⟩ := h1
      have r1 := q1 (by omega)
      have r2 := q2 (by omega)
      refine Run.unf scriptingref32_Check_l1_eq (Run.go 100 ?_)
      simp -implicitDefEqProofs only [go_sem]
      have no : rfit2 s.hc s.lc s.mc i.c = false → 6 = rchkF s i := fun hn => by unfold rchkF; rw [g1, g2, g3, g4, r1, r2, hn]; simp
      cases hh : s.hc <;> rw [hh] at no <;> simp -implicitDefEqProofs only [go_sem, hh]
      · exact ih _ 3 ⟨by omega, fun _ => q1 (by omega), fun _ => q2 (by omega), fun _ => by rw [hh]; rfl, by omega⟩ (by omega) (by simp -implicitDefEqProofs only [go_sem, hh])
      · repeat' (first | refine And.intro ?_ ?_ | refine fun h => ?_)
        all_goals first
          | exact no (by simp [rfit2]; omega)
          | exact ih _ 3 ⟨by omega, fun _ => q1 (by omega), fun _ => q2 (by omega), fun _ => by rw [hh]; simp [rfit2]; omega, by omega⟩ (by omega) (by simp -implicitDefEqProofs only [go_sem, hh])
    · obtain ⟨q1, q2, q3, q4⟩ := h1
      have r1 := q1 (by omega)
      have r2 := q2 (by omega)
      have r3 := q3 (by omega)
      refine Run.unf scriptingref32_Check_l1_eq (Run.go 100 ?_)
      simp -implicitDefEqProofs only [go_sem]
      have no : rfit2 s.hd s.ld s.md i.d = false → 6 = rchkF s i := fun hn => by unfold rchkF; rw [g1, g2, g3, g4, r1, r2, r3, hn]; simp
      cases hh : s.hd <;> rw [hh] at no <;> simp -implicitDefEqProofs only [go_sem, hh]
      · exact ih _ 4 ⟨by omega, fun _ => q1 (by omega), fun _ => q2 (by omega), fun _ => q3 (by omega), fun _ => by rw [hh]; rfl⟩ (by omega) (by simp -implicitDefEqProofs only [go_sem, hh])
      · repeat' (first | refine And.intro ?_ ?_ | refine fun h => ?_)
        all_goals first
          | exact no (by simp [rfit2]; omega)
          | exact ih _ 4 ⟨by omega, fun _ => q1 (by omega), fun _ => q2 (by omega), fun _ => q3 (by omega), fun _ => by rw [hh]; simp [rfit2]; omega⟩ (by omega) (by simp -implicitDefEqProofs only [go_sem, hh])
  · obtain ⟨q1, q2, q3, q4⟩ := h1
    refine Run.unf scriptingref32_Check_l0_eq (Run.go 100 ?_)
    simp -implicitDefEqProofs only [go_sem]
    have no : rfit1 s.ha i.a = false → 4 = rchkF s i := fun hn => by unfold rchkF; rw [hn]; simp
    cases hh : s.ha <;> rw [hh] at no <;> simp -implicitDefEqProofs only [go_sem, hh]
    · repeat' (first | refine And.intro ?_ ?_ | refine fun h => ?_)
      all_goals first
        | exact no (by simp [rfit1]; omega)
        | exact ih _ 1 ⟨by omega, fun _ => by rw [hh]; simp [rfit1]; omega, by omega, by omega, by omega⟩ (by omega) (by simp -implicitDefEqProofs only [go_sem, hh])
    · exact ih _ 1 ⟨by omega, fun _ => by rw [hh]; rfl, by omega, by omega, by omega⟩ (by omega) (by simp -implicitDefEqProofs only [go_sem, hh])
  · obtain ⟨q1, q2, q3, q4⟩ := h1
    have r1 := q1 (by omega)
    refine Run.unf scriptingref32_Check_l0_eq (Run.go 100 ?_)
    simp -implicitDefEqProofs only [go_sem]
    have no : rfit1 s.hb i.b = false → 4 = rchkF s i := fun hn => by unfold rchkF; rw [r1, hn]; simp
    cases hh : s.hb <;> rw [hh] at no <;> simp -implicitDefEqProofs only [go_sem, hh]
    · repeat' (first | refine And.intro ?_ ?_ | refine fun h => ?_)
      all_goals first
        | exact no (by simp [rfit1]; omega)
        | exact ih _ 2 ⟨by omega, fun _ => q1 (by omega), fun _ => by rw [hh]; simp [rfit1]; omega, by omega, by omega⟩ (by omega) (by simp -implicitDefEqProofs only [go_sem, hh])
    · exact ih _ 2 ⟨by omega, fun _ => q1 (by omega), fun _ => by rw [hh]; rfl, by omega, by omega⟩ (by omega) (by simp -implicitDefEqProofs only [go_sem, hh])
  · obtain ⟨q1, q2, q3, q4⟩ := h1
    have r1 := q1 (by omega)
    have r2 := q2 (by omega)
    refine Run.unf scriptingref32_Check_l0_eq (Run.go 100 ?_)
    simp -implicitDefEqProofs only [go_sem]
    have no : rfit1 s.hc i.c = false → 4 = rchkF s i := fun hn => by unfold rchkF; rw [r1, r2, hn]; simp
    cases hh : s.hc <;> rw [hh] at no <;> simp -implicitDefEqProofs only [go_sem, hh]
    · repeat' (first | refine And.intro ?_ ?_ | refine fun h => ?_)
      all_goals first
        | exact no (by simp [rfit1]; omega)
        | exact ih _ 3 ⟨by omega, fun _ => q1 (by omega), fun _ => q2 (by omega), fun _ => by rw [hh]; simp [rfit1]; omega, by omega⟩ (by omega) (by simp -implicitDefEqProofs only [go_sem, hh])
    · exact ih _ 3 ⟨by omega, fun _ => q1 (by omega), fun _ => q2 (by omega), fun _ => by rw [hh]; rfl, by omega⟩ (by omega) (by simp -implicitDefEqProofs only [go_sem, hh])
  · obtain ⟨q1, q2, q3, q4⟩ := h1
    have r1 := q1 (by omega)
    have r2 := q2 (by omega)
    have r3 := q3 (by omega)
    refine Run.unf scriptingref32_Check_l0_eq (Run.go 100 ?_)
    simp -implicitDefEqProofs only [go_sem]
    have no : rfit1 s.hd i.d = false → 4 = rchkF s i := fun hn => by unfold rchkF; rw [r1, r2, r3, hn]; simp
    cases hh : s.hd <;> rw [hh] at no <;> simp -implicitDefEqProofs only [go_sem, hh]
    · repeat' (first | refine And.intro ?_ ?_ | refine fun h => ?_)
      all_goals first
        | exact no (by simp [rfit1]; omega)
        | exact ih _ 4 ⟨by omega, fun _ => q1 (by omega), fun _ => q2 (by omega), fun _ => q3 (by omega), fun _ => by rw [hh]; simp [rfit1]; omega⟩ (by omega) (by simp -implicitDefEqProofs only [go_sem, hh])
    · exact ih _ 4 ⟨by omega, fun _ => q1 (by omega), fun _ => q2 (by omega), fun _ => q3 (by omega), fun _ => by rw [hh]; rfl⟩ (by omega) (by simp -implicitDefEqProofs only [go_sem, hh])
theorem rcheck_pure (i : Ins) : Pure Tryz.prog 25 [i.v] (.int .i64 (chk i)) := rchk_eq i ▸ rcheck_pure0 i
end Go.Proofs.YtppcibdjmnpdhaaGreatDoor
