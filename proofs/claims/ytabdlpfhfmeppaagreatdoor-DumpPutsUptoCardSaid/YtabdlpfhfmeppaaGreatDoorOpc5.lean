/-
  What the reference's 'Check' answers: the same as the program's. No condition.
-/
import Derived.Test.YtabdlpfhfmeppaaGreatDoorOpc4
set_option linter.unusedVariables false
set_option linter.unusedSimpArgs false
set_option maxRecDepth 100000
set_option maxHeartbeats 0
namespace Go.Proofs.YtabdlpfhfmeppaaGreatDoor
open Go.Abs
attribute [local irreducible] CallS Run
-- EV: Ins.v, Ins.row, Shp.v, Shp.row, intsV, Ins.fs
def rchkF (s : Shp) (i : Ins) : Int :=
  if (rfit1 s.ha i.a && rfit1 s.hb i.b && rfit1 s.hc i.c && rfit1 s.hd i.d) = false then 4
  else if (rfit2 s.ha s.la s.ma i.a && rfit2 s.hb s.lb s.mb i.b && rfit2 s.hc s.lc s.mc i.c && rfit2 s.hd s.ld s.md i.d) = false then 6
  else if i.op = 3 ∧ i.b < i.a ∨ limitR i > 4095 then 6
  else 0
theorem rchk_eqF {i : Ins} (h : isOp i.op = true) : rchk i = rchkF (shp i.op) i := by
  unfold rchk; rw [if_neg (by rw [h]; simp)]; rfl
theorem shp_ok (op : Int) : (-1 ≤ (shp op).la ∧ (shp op).ma ≤ 40000) ∧ (-1 ≤ (shp op).lb ∧ (shp op).mb ≤ 40000) ∧ (-1 ≤ (shp op).lc ∧ (shp op).mc ≤ 40000) ∧ (isOp op = true → (shp op).word ≠ []) ∧ (isOp op = false → (shp op).word = []) := by
  cases h : isOp op with
  | false => rw [shp, if_neg (by rw [h]; simp)]; simp
  | true =>
    rcases op_cases h with rfl | rfl | rfl | rfl | rfl | rfl | rfl | rfl | rfl | rfl | rfl | rfl | rfl | rfl | rfl | rfl | rfl | rfl | rfl | rfl | rfl | rfl | rfl | rfl | rfl | rfl | rfl | rfl | rfl <;> simp <;> decide
theorem rrange {h : Bool} {l m x : Int} (h1 : rfit1 h x = true) (h2 : rfit2 h l m x = true) (hl : -1 ≤ l) (hm : m ≤ 40000) : -1 ≤ x ∧ x ≤ 40000 := by
  cases h <;> simp [rfit1, rfit2] at h1 h2 <;> omega
theorem rcheck_pure0 (i : Ins) : Pure Tryz.prog 74 [i.v] (.int .i64 (rchk i)) := by
  refine Pure.of 0 (CallS.enter scriptingref32_Check_ok (Nat.le_of_ble_eq_true rfl) ?_)
  refine Run.go 100 ?_
  simp -implicitDefEqProofs only [go_sem, Ins.v, Ins.row, Shp.v, Shp.row, intsV, Ins.fs, initSl]
  refine CallS.pureF (data_pure i.op) (by simp -implicitDefEqProofs only [go_sem, Ins.v, Ins.row, Shp.v, Shp.row, intsV, Ins.fs]) ?_
  simp -implicitDefEqProofs only [go_sem, Ins.v, Ins.row, Shp.v, Shp.row, intsV, Ins.fs]
  refine CallS.pureF (rfields_pure i) (by simp -implicitDefEqProofs only [go_sem, Ins.v, Ins.row, Shp.v, Shp.row, intsV, Ins.fs]) ?_
  simp -implicitDefEqProofs only [go_sem, Ins.v, Ins.row, Shp.v, Shp.row, intsV, Ins.fs]
  obtain ⟨wa, wb, wc, w1, w0⟩ := shp_ok i.op
  refine ⟨fun h => ?_, fun h => ?_⟩
  · cases hi : isOp i.op with
    | true => exact absurd h (w1 hi)
    | false => unfold rchk; rw [if_pos hi]
  have hi : isOp i.op = true := by
    cases hi : isOp i.op with
    | true => rfl
    | false => exact absurd (w0 hi) h
  rw [rchk_eqF hi]
  clear h w1 w0
  generalize shp i.op = s at wa wb wc ⊢
  refine Run.rounds (fun (j : Nat) => ⟨[(5, .int .i64 j), (4, .ptr (74 * 10000 + 4) 2 0 0), (3, .ptr (74 * 10000 + 3) 1 0 0), (1, .ptr (74 * 10000 + 1) 0 0 0)], [((74 * 10000 + 4), 2, .rows 4 [[.int .i64 i.a, .int .i64 i.b, .int .i64 i.c, .int .i64 i.d]]), ((74 * 10000 + 3), 1, .rows 13 [s.row]), ((74 * 10000 + 1), 0, .rows 5 [i.row])], 3⟩)
    (fun j => j ≤ 4 ∧ n4 j (rfit1 s.ha i.a) (rfit1 s.hb i.b) (rfit1 s.hc i.c) (rfit1 s.hd i.d)) (fun j => 4 - j) 0 (by simp -implicitDefEqProofs only [go_sem, Ins.v, Ins.row, Shp.v, Shp.row, intsV, Ins.fs]) ⟨by omega, by simp [n4]⟩ ?_
  rintro j ⟨hj, h1⟩ ih
  have hcase : j = 0 ∨ j = 1 ∨ j = 2 ∨ j = 3 ∨ j = 4 := by omega
  rcases hcase with rfl | rfl | rfl | rfl | rfl
  rotate_left 4
  · clear ih
    obtain ⟨q1, q2, q3, q4⟩ := h1
    have g1 := q1 (by omega)
    have g2 := q2 (by omega)
    have g3 := q3 (by omega)
    have g4 := q4 (by omega)
    clear q1 q2 q3 q4
    refine Run.unf scriptingref32_Check_l0_eq (Run.go 100 ?_)
    simp -implicitDefEqProofs only [go_sem, Ins.v, Ins.row, Shp.v, Shp.row, intsV, Ins.fs]
    refine Run.rounds (fun (j : Nat) => ⟨[(6, .int .i64 j), (4, .ptr (74 * 10000 + 4) 2 0 0), (3, .ptr (74 * 10000 + 3) 1 0 0), (1, .ptr (74 * 10000 + 1) 0 0 0)], [((74 * 10000 + 4), 2, .rows 4 [[.int .i64 i.a, .int .i64 i.b, .int .i64 i.c, .int .i64 i.d]]), ((74 * 10000 + 3), 1, .rows 13 [s.row]), ((74 * 10000 + 1), 0, .rows 5 [i.row])], 3⟩)
      (fun j => j ≤ 4 ∧ n4 j (rfit2 s.ha s.la s.ma i.a) (rfit2 s.hb s.lb s.mb i.b) (rfit2 s.hc s.lc s.mc i.c) (rfit2 s.hd s.ld s.md i.d)) (fun j => 4 - j) 0 (by simp -implicitDefEqProofs only [go_sem, Ins.v, Ins.row, Shp.v, Shp.row, intsV, Ins.fs]) ⟨by omega, by simp [n4]⟩ ?_
    rintro j ⟨hj, h1⟩ ih
    have hcase : j = 0 ∨ j = 1 ∨ j = 2 ∨ j = 3 ∨ j = 4 := by omega
    rcases hcase with rfl | rfl | rfl | rfl | rfl
    rotate_left 4
    · clear ih
      obtain ⟨q1, q2, q3, q4⟩ := h1
      have r1 := q1 (by omega)
      have r2 := q2 (by omega)
      have r3 := q3 (by omega)
      have r4 := q4 (by omega)
      clear q1 q2 q3 q4
      have ra := rrange g1 r1 wa.1 wa.2
      have rb := rrange g2 r2 wb.1 wb.2
      have rc := rrange g3 r3 wc.1 wc.2
      have hc : rchkF s i = if i.op = 3 ∧ i.b < i.a ∨ limitR i > 4095 then 6 else 0 := by
        unfold rchkF; rw [g1, g2, g3, g4, r1, r2, r3, r4]; simp
      rw [hc]
      refine Run.unf scriptingref32_Check_l1_eq (Run.go 100 ?_)
      simp -implicitDefEqProofs only [go_sem, Ins.v, Ins.row, Shp.v, Shp.row, intsV, Ins.fs]
      repeat' (first | refine And.intro ?_ ?_ | refine fun h => ?_)
      all_goals first
        | (simp [*]; done)
        | (refine CallS.pureF (limit_pure i ra rb rc) (by simp -implicitDefEqProofs only [go_sem, Ins.v, Ins.row, Shp.v, Shp.row, intsV, Ins.fs]) ?_
           simp -implicitDefEqProofs only [go_sem, Ins.v, Ins.row, Shp.v, Shp.row, intsV, Ins.fs]
           repeat' (first | refine And.intro ?_ ?_ | refine fun h => ?_)
           all_goals (simp [*]; try omega))
    · obtain ⟨q1, q2, q3, q4⟩ := h1
      refine Run.unf scriptingref32_Check_l1_eq (Run.go 100 ?_)
      simp -implicitDefEqProofs only [go_sem, Ins.v, Ins.row, Shp.v, Shp.row, intsV, Ins.fs]
      have no : rfit2 s.ha s.la s.ma i.a = false → 6 = rchkF s i := fun hn => by unfold rchkF; rw [g1, g2, g3, g4, hn]; simp
      cases hh : s.ha <;> rw [hh] at no <;> simp -implicitDefEqProofs only [go_sem, Ins.v, Ins.row, Shp.v, Shp.row, intsV, Ins.fs, hh]
      · exact ih _ 1 ⟨by omega, fun _ => by rw [hh]; rfl, by omega, by omega, by omega⟩ (by omega) (by simp -implicitDefEqProofs only [go_sem, Ins.v, Ins.row, Shp.v, Shp.row, intsV, Ins.fs, hh])
      · repeat' (first | refine And.intro ?_ ?_ | refine fun h => ?_)
        all_goals first
          | exact no (by simp [rfit2]; omega)
          | exact ih _ 1 ⟨by omega, fun _ => by rw [hh]; simp [rfit2]; omega, by omega, by omega, by omega⟩ (by omega) (by simp -implicitDefEqProofs only [go_sem, Ins.v, Ins.row, Shp.v, Shp.row, intsV, Ins.fs, hh])
    · obtain ⟨q1, q2, q3, q4⟩ := h1
      have r1 := q1 (by omega)
      refine Run.unf scriptingref32_Check_l1_eq (Run.go 100 ?_)
      simp -implicitDefEqProofs only [go_sem, Ins.v, Ins.row, Shp.v, Shp.row, intsV, Ins.fs]
      have no : rfit2 s.hb s.lb s.mb i.b = false → 6 = rchkF s i := fun hn => by unfold rchkF; rw [g1, g2, g3, g4, r1, hn]; simp
      cases hh : s.hb <;> rw [hh] at no <;> simp -implicitDefEqProofs only [go_sem, Ins.v, Ins.row, Shp.v, Shp.row, intsV, Ins.fs, hh]
      · exact ih _ 2 ⟨by omega, fun _ => q1 (by omega), fun _ => by rw [hh]; rfl, by omega, by omega⟩ (by omega) (by simp -implicitDefEqProofs only [go_sem, Ins.v, Ins.row, Shp.v, Shp.row, intsV, Ins.fs, hh])
      · repeat' (first | refine And.intro ?_ ?_ | refine fun h => ?_)
        all_goals first
          | exact no (by simp [rfit2]; omega)
          | exact ih _ 2 ⟨by omega, fun _ => q1 (by omega), fun _ => by rw [hh]; simp [rfit2]; omega, by omega, by omega⟩ (by omega) (by simp -implicitDefEqProofs only [go_sem, Ins.v, Ins.row, Shp.v, Shp.row, intsV, Ins.fs, hh])
    · obtain ⟨q1, q2, q3, q4⟩ := h1
      have r1 := q1 (by omega)
      have r2 := q2 (by omega)
      refine Run.unf scriptingref32_Check_l1_eq (Run.go 100 ?_)
      simp -implicitDefEqProofs only [go_sem, Ins.v, Ins.row, Shp.v, Shp.row, intsV, Ins.fs]
      have no : rfit2 s.hc s.lc s.mc i.c = false → 6 = rchkF s i := fun hn => by unfold rchkF; rw [g1, g2, g3, g4, r1, r2, hn]; simp
      cases hh : s.hc <;> rw [hh] at no <;> simp -implicitDefEqProofs only [go_sem, Ins.v, Ins.row, Shp.v, Shp.row, intsV, Ins.fs, hh]
      · exact ih _ 3 ⟨by omega, fun _ => q1 (by omega), fun _ => q2 (by omega), fun _ => by rw [hh]; rfl, by omega⟩ (by omega) (by simp -implicitDefEqProofs only [go_sem, Ins.v, Ins.row, Shp.v, Shp.row, intsV, Ins.fs, hh])
      · repeat' (first | refine And.intro ?_ ?_ | refine fun h => ?_)
        all_goals first
          | exact no (by simp [rfit2]; omega)
          | exact ih _ 3 ⟨by omega, fun _ => q1 (by omega), fun _ => q2 (by omega), fun _ => by rw [hh]; simp [rfit2]; omega, by omega⟩ (by omega) (by simp -implicitDefEqProofs only [go_sem, Ins.v, Ins.row, Shp.v, Shp.row, intsV, Ins.fs, hh])
    · obtain ⟨q1, q2, q3, q4⟩ := h1
      have r1 := q1 (by omega)
      have r2 := q2 (by omega)
      have r3 := q3 (by omega)
      refine Run.unf scriptingref32_Check_l1_eq (Run.go 100 ?_)
      simp -implicitDefEqProofs only [go_sem, Ins.v, Ins.row, Shp.v, Shp.row, intsV, Ins.fs]
      have no : rfit2 s.hd s.ld s.md i.d = false → 6 = rchkF s i := fun hn => by unfold rchkF; rw [g1, g2, g3, g4, r1, r2, r3, hn]; simp
      cases hh : s.hd <;> rw [hh] at no <;> simp -implicitDefEqProofs only [go_sem, Ins.v, Ins.row, Shp.v, Shp.row, intsV, Ins.fs, hh]
      · exact ih _ 4 ⟨by omega, fun _ => q1 (by omega), fun _ => q2 (by omega), fun _ => q3 (by omega), fun _ => by rw [hh]; rfl⟩ (by omega) (by simp -implicitDefEqProofs only [go_sem, Ins.v, Ins.row, Shp.v, Shp.row, intsV, Ins.fs, hh])
      · repeat' (first | refine And.intro ?_ ?_ | refine fun h => ?_)
        all_goals first
          | exact no (by simp [rfit2]; omega)
          | exact ih _ 4 ⟨by omega, fun _ => q1 (by omega), fun _ => q2 (by omega), fun _ => q3 (by omega), fun _ => by rw [hh]; simp [rfit2]; omega⟩ (by omega) (by simp -implicitDefEqProofs only [go_sem, Ins.v, Ins.row, Shp.v, Shp.row, intsV, Ins.fs, hh])
  · obtain ⟨q1, q2, q3, q4⟩ := h1
    refine Run.unf scriptingref32_Check_l0_eq (Run.go 100 ?_)
    simp -implicitDefEqProofs only [go_sem, Ins.v, Ins.row, Shp.v, Shp.row, intsV, Ins.fs]
    have no : rfit1 s.ha i.a = false → 4 = rchkF s i := fun hn => by unfold rchkF; rw [hn]; simp
    cases hh : s.ha <;> rw [hh] at no <;> simp -implicitDefEqProofs only [go_sem, Ins.v, Ins.row, Shp.v, Shp.row, intsV, Ins.fs, hh]
    · repeat' (first | refine And.intro ?_ ?_ | refine fun h => ?_)
      all_goals first
        | exact no (by simp [rfit1]; omega)
        | exact ih _ 1 ⟨by omega, fun _ => by rw [hh]; simp [rfit1]; omega, by omega, by omega, by omega⟩ (by omega) (by simp -implicitDefEqProofs only [go_sem, Ins.v, Ins.row, Shp.v, Shp.row, intsV, Ins.fs, hh])
    · exact ih _ 1 ⟨by omega, fun _ => by rw [hh]; rfl, by omega, by omega, by omega⟩ (by omega) (by simp -implicitDefEqProofs only [go_sem, Ins.v, Ins.row, Shp.v, Shp.row, intsV, Ins.fs, hh])
  · obtain ⟨q1, q2, q3, q4⟩ := h1
    have r1 := q1 (by omega)
    refine Run.unf scriptingref32_Check_l0_eq (Run.go 100 ?_)
    simp -implicitDefEqProofs only [go_sem, Ins.v, Ins.row, Shp.v, Shp.row, intsV, Ins.fs]
    have no : rfit1 s.hb i.b = false → 4 = rchkF s i := fun hn => by unfold rchkF; rw [r1, hn]; simp
    cases hh : s.hb <;> rw [hh] at no <;> simp -implicitDefEqProofs only [go_sem, Ins.v, Ins.row, Shp.v, Shp.row, intsV, Ins.fs, hh]
    · repeat' (first | refine And.intro ?_ ?_ | refine fun h => ?_)
      all_goals first
        | exact no (by simp [rfit1]; omega)
        | exact ih _ 2 ⟨by omega, fun _ => q1 (by omega), fun _ => by rw [hh]; simp [rfit1]; omega, by omega, by omega⟩ (by omega) (by simp -implicitDefEqProofs only [go_sem, Ins.v, Ins.row, Shp.v, Shp.row, intsV, Ins.fs, hh])
    · exact ih _ 2 ⟨by omega, fun _ => q1 (by omega), fun _ => by rw [hh]; rfl, by omega, by omega⟩ (by omega) (by simp -implicitDefEqProofs only [go_sem, Ins.v, Ins.row, Shp.v, Shp.row, intsV, Ins.fs, hh])
  · obtain ⟨q1, q2, q3, q4⟩ := h1
    have r1 := q1 (by omega)
    have r2 := q2 (by omega)
    refine Run.unf scriptingref32_Check_l0_eq (Run.go 100 ?_)
    simp -implicitDefEqProofs only [go_sem, Ins.v, Ins.row, Shp.v, Shp.row, intsV, Ins.fs]
    have no : rfit1 s.hc i.c = false → 4 = rchkF s i := fun hn => by unfold rchkF; rw [r1, r2, hn]; simp
    cases hh : s.hc <;> rw [hh] at no <;> simp -implicitDefEqProofs only [go_sem, Ins.v, Ins.row, Shp.v, Shp.row, intsV, Ins.fs, hh]
    · repeat' (first | refine And.intro ?_ ?_ | refine fun h => ?_)
      all_goals first
        | exact no (by simp [rfit1]; omega)
        | exact ih _ 3 ⟨by omega, fun _ => q1 (by omega), fun _ => q2 (by omega), fun _ => by rw [hh]; simp [rfit1]; omega, by omega⟩ (by omega) (by simp -implicitDefEqProofs only [go_sem, Ins.v, Ins.row, Shp.v, Shp.row, intsV, Ins.fs, hh])
    · exact ih _ 3 ⟨by omega, fun _ => q1 (by omega), fun _ => q2 (by omega), fun _ => by rw [hh]; rfl, by omega⟩ (by omega) (by simp -implicitDefEqProofs only [go_sem, Ins.v, Ins.row, Shp.v, Shp.row, intsV, Ins.fs, hh])
  · obtain ⟨q1, q2, q3, q4⟩ := h1
    have r1 := q1 (by omega)
    have r2 := q2 (by omega)
    have r3 := q3 (by omega)
    refine Run.unf scriptingref32_Check_l0_eq (Run.go 100 ?_)
    simp -implicitDefEqProofs only [go_sem, Ins.v, Ins.row, Shp.v, Shp.row, intsV, Ins.fs]
    have no : rfit1 s.hd i.d = false → 4 = rchkF s i := fun hn => by unfold rchkF; rw [r1, r2, r3, hn]; simp
    cases hh : s.hd <;> rw [hh] at no <;> simp -implicitDefEqProofs only [go_sem, Ins.v, Ins.row, Shp.v, Shp.row, intsV, Ins.fs, hh]
    · repeat' (first | refine And.intro ?_ ?_ | refine fun h => ?_)
      all_goals first
        | exact no (by simp [rfit1]; omega)
        | exact ih _ 4 ⟨by omega, fun _ => q1 (by omega), fun _ => q2 (by omega), fun _ => q3 (by omega), fun _ => by rw [hh]; simp [rfit1]; omega⟩ (by omega) (by simp -implicitDefEqProofs only [go_sem, Ins.v, Ins.row, Shp.v, Shp.row, intsV, Ins.fs, hh])
    · exact ih _ 4 ⟨by omega, fun _ => q1 (by omega), fun _ => q2 (by omega), fun _ => q3 (by omega), fun _ => by rw [hh]; rfl⟩ (by omega) (by simp -implicitDefEqProofs only [go_sem, Ins.v, Ins.row, Shp.v, Shp.row, intsV, Ins.fs, hh])
theorem rcheck_pure (i : Ins) : Pure Tryz.prog 74 [i.v] (.int .i64 (chk i)) := rchk_eq i ▸ rcheck_pure0 i
end Go.Proofs.YtabdlpfhfmeppaaGreatDoor
