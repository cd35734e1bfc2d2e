/-
  The law's own 'ranges'. No condition.
-/
import Derived.Test.YtkibfcnieamdoaaGreatDoorPeG
import Derived.Test.YtkibfcnieamdoaaGreatDoorOpcM
set_option linter.unusedVariables false
set_option linter.unusedSimpArgs false
set_option maxRecDepth 100000
set_option maxHeartbeats 0
namespace Go.Proofs.YtkibfcnieamdoaaGreatDoor
open Go.Abs
attribute [local irreducible] CallS Run
-- EV: Vr.row
theorem ranges_pure (a b : Fn) (hr : RangeOK a b) (hb : b.lines.length ≤ 17592186043904) (hv : b.vars.length ≤ 2932031007317) : Pure Tryz.prog 7 [.agg a.row, .agg b.row] (.bool true) := by
  obtain ⟨r1, r2, r3, r4, r5⟩ := hr
  have hlc : (a.code.map Ins.row).length = a.code.length := List.length_map ..
  have hll : (a.lines.map lrow).length = a.lines.length := List.length_map ..
  have hlm : (b.lines.map lrow).length = b.lines.length := List.length_map ..
  have hlv : (a.vars.map Vr.row).length = a.vars.length := List.length_map ..
  have hlw : (b.vars.map Vr.row).length = b.vars.length := List.length_map ..
  have hrl : ∀ (k : Nat) x, a.lines[k]? = some x → (a.lines.map lrow)[k]? = some [.int .i64 x] := fun k x h => by rw [List.getElem?_map, h]; rfl
  have hrm : ∀ (k : Nat) x, b.lines[k]? = some x → (b.lines.map lrow)[k]? = some [.int .i64 x] := fun k x h => by rw [List.getElem?_map, h]; rfl
  have hrv : ∀ (k : Nat) x, a.vars[k]? = some x → (a.vars.map Vr.row)[k]? = some x.row := fun k x h => by rw [List.getElem?_map, h]; rfl
  have hzl : rowsz (a.lines.map lrow) 1 = True := eq_true (rowsz_of lrow 1 (fun _ => rfl) _)
  have hzm : rowsz (b.lines.map lrow) 1 = True := eq_true (rowsz_of lrow 1 (fun _ => rfl) _)
  have hzv : rowsz (a.vars.map Vr.row) 5 = True := eq_true (rowsz_of Vr.row 5 (fun _ => rfl) _)
  have hle : a.lines.length ≤ b.lines.length := r4.length_le
  rw [Fn.row_eq a, Fn.row_eq b]
  generalize a.lines.map lrow = LA at *
  generalize b.lines.map lrow = LB at *
  generalize a.vars.map Vr.row = VA at *
  generalize b.vars.map Vr.row = VB at *
  generalize a.code.map Ins.row = CA at *
  refine Pure.of 0 (CallS.enter scriptinglaw41_ranges_ok (Nat.le_of_ble_eq_true rfl) (Run.go 100 ?_))
  have d1 : (decide ((a.lines.length : Int) = 0) = decide ((b.lines.length : Int) = 0)) = True := eq_true (by
    by_cases h : a.lines.length = 0
    · have := r2.1 h; simp [h, this]
    · have : ¬ b.lines.length = 0 := fun h2 => h (r2.2 h2)
      rw [decide_eq_false (by omega), decide_eq_false (by omega)])
  have d2 : ((b.vars.length : Int) < a.vars.length) = False := eq_false (by omega)
  have hcs : (((a.lines.length : Int) = a.code.length) = True) ∨ ((((a.lines.length : Int) = a.code.length) = False) ∧ (((a.lines.length : Int) = 0) = True)) := by
    by_cases h : a.lines.length = a.code.length
    · exact .inl (eq_true (by omega))
    · exact .inr ⟨eq_false (by omega), eq_true (by have := r1.resolve_left h; omega)⟩
  rcases hcs with c1 | ⟨c1, c2⟩
  · simp -implicitDefEqProofs only [go_sem, Vr.row, initSl, hlc, hll, hlm, hlv, hlw, d1, d2, c1]
    refine Run.rounds (fun (x : Nat × Nat) => ⟨[(44, .int .i64 x.1), (43, .int .i64 a.lines.length), (5, .int .i64 x.2), (3, .ptr (7 * 10000 + 3) 1 0 0), (2, .ptr (7 * 10000 + 2) 0 0 0)], [((7 * 10000 + 3), 1, .rows 11 [[.str b.name, .int .i64 b.line, .int .i64 b.params, .bool b.vararg, .int .i64 b.regs, .isl (b.code.map Ins.row), .isl LB, .isl (b.consts.map Kst.row), .isl (b.protos.map Fn.row), .isl (b.ups.map Upv.row), .isl VB]]), ((7 * 10000 + 2), 0, .rows 11 [[.str a.name, .int .i64 a.line, .int .i64 a.params, .bool a.vararg, .int .i64 a.regs, .isl CA, .isl LA, .isl (a.consts.map Kst.row), .isl (a.protos.map Fn.row), .isl (a.ups.map Upv.row), .isl VA]])], 2⟩)
      (fun x => (x.1 ≤ a.lines.length ∧ x.2 ≤ b.lines.length) ∧ (a.lines.drop x.1).Sublist (b.lines.drop x.2)) (fun x => a.lines.length - x.1) (0, 0) (by simp -implicitDefEqProofs only [go_sem, Vr.row]) ⟨⟨Nat.zero_le _, Nat.zero_le _⟩, r4⟩ ?_
    rintro ⟨i, k⟩ ⟨⟨hi, hk⟩, hs⟩ ih
    dsimp only at hi hk hs ih ⊢
    refine Run.unf scriptinglaw41_ranges_l0_eq (Run.go 100 ?_)
    by_cases c : (i : Int) < a.lines.length
    · obtain ⟨x, hx⟩ : ∃ x, a.lines[i]? = some x := ⟨a.lines[i]'(by omega), by simp⟩
      have hd : a.lines.drop i = x :: a.lines.drop (i + 1) := by rw [List.drop_eq_getElem_cons (by omega)]; congr 1; exact Option.some.inj (by rw [← hx]; simp)
      rw [hd] at hs
      obtain ⟨j, j1, j2, j3⟩ := sub_first hs
      rw [List.getElem?_drop] at j1
      have j4 : k + j < b.lines.length := (List.getElem?_eq_some_iff.1 j1).1
      rw [List.drop_drop] at j3
      simp -implicitDefEqProofs only [go_sem, Vr.row, c]
      refine Run.rounds (fun (t : Nat) => ⟨[(44, .int .i64 i), (43, .int .i64 a.lines.length), (6, .int .i64 i), (5, .int .i64 (k + t : Nat)), (3, .ptr (7 * 10000 + 3) 1 0 0), (2, .ptr (7 * 10000 + 2) 0 0 0)], [((7 * 10000 + 3), 1, .rows 11 [[.str b.name, .int .i64 b.line, .int .i64 b.params, .bool b.vararg, .int .i64 b.regs, .isl (b.code.map Ins.row), .isl LB, .isl (b.consts.map Kst.row), .isl (b.protos.map Fn.row), .isl (b.ups.map Upv.row), .isl VB]]), ((7 * 10000 + 2), 0, .rows 11 [[.str a.name, .int .i64 a.line, .int .i64 a.params, .bool a.vararg, .int .i64 a.regs, .isl CA, .isl LA, .isl (a.consts.map Kst.row), .isl (a.protos.map Fn.row), .isl (a.ups.map Upv.row), .isl VA]])], 2⟩)
        (fun t => t ≤ j) (fun t => j - t) 0 (by simp -implicitDefEqProofs only [go_sem, Vr.row]) (Nat.zero_le _) ?_
      intro t ht ih2
      refine Run.unf scriptinglaw41_ranges_l1_eq (Run.go 100 ?_)
      have hxr := hrl i x hx
      obtain ⟨y, hy⟩ : ∃ y, b.lines[k + t]? = some y := ⟨b.lines[k + t]'(by omega), by simp⟩
      have hyr := hrm _ y hy
      have q0 : ((0 : Int) ≤ ((k + t : Nat) : Int)) = True := eq_true (by omega)
      have q1 : (((k + t : Nat) : Int) < (b.lines.length : Int)) = True := eq_true (by omega)
      have q2 : (k + t < b.lines.length) = True := eq_true (by omega)
      have q3 : ((0 : Int) ≤ (i : Int)) = True := eq_true (by omega)
      have q4 : (i < a.lines.length) = True := eq_true (by omega)
      by_cases e : t = j
      · subst e
        obtain rfl : y = x := by rw [j1] at hy; exact (Option.some.inj hy).symm
        have q5 : (((k + t : Nat) : Int) = (b.lines.length : Int)) = False := eq_false (by omega)
        have fin := fun s => ih s (i + 1, k + t + 1) ⟨⟨by dsimp only; omega, by dsimp only; omega⟩, by dsimp only; rw [show k + t + 1 = k + (t + 1) from by omega]; exact j3⟩ (by dsimp only; omega)
        dsimp only at fin
        simp -implicitDefEqProofs only [go_sem, Vr.row, c, hll, hlm, hzl, hzm, hxr, hyr, q0, q1, q2, q3, q4, q5, Option.some.injEq, forall_eq']
        exact ⟨⟨by omega, by omega⟩, ⟨by omega, by omega⟩, fin _ (by simp -implicitDefEqProofs only [go_sem, Vr.row]; try omega)⟩
      · have hne : y ≠ x := fun e2 => j2 t (by omega) (by rw [List.getElem?_drop, hy, e2])
        have q5 : (y = x) = False := eq_false hne
        have fin := fun s => ih2 s (t + 1) (by omega) (by omega)
        simp -implicitDefEqProofs only [go_sem, Vr.row, c, hll, hlm, hzl, hzm, hxr, hyr, q0, q1, q2, q3, q4, q5, Option.some.injEq, forall_eq']
        exact ⟨⟨by omega, by omega⟩, fin _ (by simp -implicitDefEqProofs only [go_sem, Vr.row]; try omega)⟩
    · simp -implicitDefEqProofs only [go_sem, Vr.row, c, hlv]
      refine Run.rounds (fun (x : Nat) => ⟨[(78, .int .i64 x), (77, .int .i64 a.vars.length), (2, .ptr (7 * 10000 + 2) 0 0 0)], [((7 * 10000 + 2), 0, .rows 11 [[.str a.name, .int .i64 a.line, .int .i64 a.params, .bool a.vararg, .int .i64 a.regs, .isl CA, .isl LA, .isl (a.consts.map Kst.row), .isl (a.protos.map Fn.row), .isl (a.ups.map Upv.row), .isl VA]])], 2⟩)
        (fun x => x ≤ a.vars.length) (fun x => a.vars.length - x) 0 (by simp -implicitDefEqProofs only [go_sem, Vr.row]) (Nat.zero_le _) ?_
      intro t ht ih2
      refine Run.unf scriptinglaw41_ranges_l2_eq (Run.go 100 ?_)
      by_cases e : (t : Int) < a.vars.length
      · obtain ⟨v, hv⟩ : ∃ v, a.vars[t]? = some v := ⟨a.vars[t]'(by omega), by simp⟩
        obtain ⟨v1, v2, v3⟩ := r5 v (List.mem_of_getElem? hv)
        have hvr := hrv t v hv
        have q0 : ((0 : Int) ≤ (t : Int)) = True := eq_true (by omega)
        have q1 : (t < a.vars.length) = True := eq_true (by omega)
        have w1 : (v.lo < 0) = False := eq_false (by omega)
        have w2 : (v.hi ≤ v.lo) = False := eq_false (by omega)
        have w3 : ((a.code.length : Int) < v.hi) = False := eq_false (by omega)
        have fin := fun s => ih2 s (t + 1) (by omega) (by omega)
        simp -implicitDefEqProofs only [go_sem, Vr.row, e, hlv, hlc, hzv, hvr, q0, q1, w1, w2, w3, Option.some.injEq, forall_eq']
        exact ⟨by omega, fin _ (by simp -implicitDefEqProofs only [go_sem, Vr.row]; try omega)⟩
      · simp -implicitDefEqProofs only [go_sem, Vr.row, e]
  · have c4 : a.lines.length = 0 := by have := of_eq_true c2; omega
    have c3 : ((b.lines.length : Int) = 0) = True := eq_true (by have := r2.1 c4; omega)
    simp -implicitDefEqProofs only [go_sem, Vr.row, initSl, hlc, hll, hlm, hlv, hlw, d2, c1, c2, c3]
    refine Run.rounds (fun (x : Nat × Nat) => ⟨[(44, .int .i64 x.1), (43, .int .i64 a.lines.length), (5, .int .i64 x.2), (3, .ptr (7 * 10000 + 3) 1 0 0), (2, .ptr (7 * 10000 + 2) 0 0 0)], [((7 * 10000 + 3), 1, .rows 11 [[.str b.name, .int .i64 b.line, .int .i64 b.params, .bool b.vararg, .int .i64 b.regs, .isl (b.code.map Ins.row), .isl LB, .isl (b.consts.map Kst.row), .isl (b.protos.map Fn.row), .isl (b.ups.map Upv.row), .isl VB]]), ((7 * 10000 + 2), 0, .rows 11 [[.str a.name, .int .i64 a.line, .int .i64 a.params, .bool a.vararg, .int .i64 a.regs, .isl CA, .isl LA, .isl (a.consts.map Kst.row), .isl (a.protos.map Fn.row), .isl (a.ups.map Upv.row), .isl VA]])], 2⟩)
      (fun x => (x.1 ≤ a.lines.length ∧ x.2 ≤ b.lines.length) ∧ (a.lines.drop x.1).Sublist (b.lines.drop x.2)) (fun x => a.lines.length - x.1) (0, 0) (by simp -implicitDefEqProofs only [go_sem, Vr.row]) ⟨⟨Nat.zero_le _, Nat.zero_le _⟩, r4⟩ ?_
    rintro ⟨i, k⟩ ⟨⟨hi, hk⟩, hs⟩ ih
    dsimp only at hi hk hs ih ⊢
    refine Run.unf scriptinglaw41_ranges_l0_eq (Run.go 100 ?_)
    by_cases c : (i : Int) < a.lines.length
    · obtain ⟨x, hx⟩ : ∃ x, a.lines[i]? = some x := ⟨a.lines[i]'(by omega), by simp⟩
      have hd : a.lines.drop i = x :: a.lines.drop (i + 1) := by rw [List.drop_eq_getElem_cons (by omega)]; congr 1; exact Option.some.inj (by rw [← hx]; simp)
      rw [hd] at hs
      obtain ⟨j, j1, j2, j3⟩ := sub_first hs
      rw [List.getElem?_drop] at j1
      have j4 : k + j < b.lines.length := (List.getElem?_eq_some_iff.1 j1).1
      rw [List.drop_drop] at j3
      simp -implicitDefEqProofs only [go_sem, Vr.row, c]
      refine Run.rounds (fun (t : Nat) => ⟨[(44, .int .i64 i), (43, .int .i64 a.lines.length), (6, .int .i64 i), (5, .int .i64 (k + t : Nat)), (3, .ptr (7 * 10000 + 3) 1 0 0), (2, .ptr (7 * 10000 + 2) 0 0 0)], [((7 * 10000 + 3), 1, .rows 11 [[.str b.name, .int .i64 b.line, .int .i64 b.params, .bool b.vararg, .int .i64 b.regs, .isl (b.code.map Ins.row), .isl LB, .isl (b.consts.map Kst.row), .isl (b.protos.map Fn.row), .isl (b.ups.map Upv.row), .isl VB]]), ((7 * 10000 + 2), 0, .rows 11 [[.str a.name, .int .i64 a.line, .int .i64 a.params, .bool a.vararg, .int .i64 a.regs, .isl CA, .isl LA, .isl (a.consts.map Kst.row), .isl (a.protos.map Fn.row), .isl (a.ups.map Upv.row), .isl VA]])], 2⟩)
        (fun t => t ≤ j) (fun t => j - t) 0 (by simp -implicitDefEqProofs only [go_sem, Vr.row]) (Nat.zero_le _) ?_
      intro t ht ih2
      refine Run.unf scriptinglaw41_ranges_l1_eq (Run.go 100 ?_)
      have hxr := hrl i x hx
      obtain ⟨y, hy⟩ : ∃ y, b.lines[k + t]? = some y := ⟨b.lines[k + t]'(by omega), by simp⟩
      have hyr := hrm _ y hy
      have q0 : ((0 : Int) ≤ ((k + t : Nat) : Int)) = True := eq_true (by omega)
      have q1 : (((k + t : Nat) : Int) < (b.lines.length : Int)) = True := eq_true (by omega)
      have q2 : (k + t < b.lines.length) = True := eq_true (by omega)
      have q3 : ((0 : Int) ≤ (i : Int)) = True := eq_true (by omega)
      have q4 : (i < a.lines.length) = True := eq_true (by omega)
      by_cases e : t = j
      · subst e
        obtain rfl : y = x := by rw [j1] at hy; exact (Option.some.inj hy).symm
        have q5 : (((k + t : Nat) : Int) = (b.lines.length : Int)) = False := eq_false (by omega)
        have fin := fun s => ih s (i + 1, k + t + 1) ⟨⟨by dsimp only; omega, by dsimp only; omega⟩, by dsimp only; rw [show k + t + 1 = k + (t + 1) from by omega]; exact j3⟩ (by dsimp only; omega)
        dsimp only at fin
        simp -implicitDefEqProofs only [go_sem, Vr.row, c, hll, hlm, hzl, hzm, hxr, hyr, q0, q1, q2, q3, q4, q5, Option.some.injEq, forall_eq']
        exact ⟨⟨by omega, by omega⟩, ⟨by omega, by omega⟩, fin _ (by simp -implicitDefEqProofs only [go_sem, Vr.row]; try omega)⟩
      · have hne : y ≠ x := fun e2 => j2 t (by omega) (by rw [List.getElem?_drop, hy, e2])
        have q5 : (y = x) = False := eq_false hne
        have fin := fun s => ih2 s (t + 1) (by omega) (by omega)
        simp -implicitDefEqProofs only [go_sem, Vr.row, c, hll, hlm, hzl, hzm, hxr, hyr, q0, q1, q2, q3, q4, q5, Option.some.injEq, forall_eq']
        exact ⟨⟨by omega, by omega⟩, fin _ (by simp -implicitDefEqProofs only [go_sem, Vr.row]; try omega)⟩
    · simp -implicitDefEqProofs only [go_sem, Vr.row, c, hlv]
      refine Run.rounds (fun (x : Nat) => ⟨[(78, .int .i64 x), (77, .int .i64 a.vars.length), (2, .ptr (7 * 10000 + 2) 0 0 0)], [((7 * 10000 + 2), 0, .rows 11 [[.str a.name, .int .i64 a.line, .int .i64 a.params, .bool a.vararg, .int .i64 a.regs, .isl CA, .isl LA, .isl (a.consts.map Kst.row), .isl (a.protos.map Fn.row), .isl (a.ups.map Upv.row), .isl VA]])], 2⟩)
        (fun x => x ≤ a.vars.length) (fun x => a.vars.length - x) 0 (by simp -implicitDefEqProofs only [go_sem, Vr.row]) (Nat.zero_le _) ?_
      intro t ht ih2
      refine Run.unf scriptinglaw41_ranges_l2_eq (Run.go 100 ?_)
      by_cases e : (t : Int) < a.vars.length
      · obtain ⟨v, hv⟩ : ∃ v, a.vars[t]? = some v := ⟨a.vars[t]'(by omega), by simp⟩
        obtain ⟨v1, v2, v3⟩ := r5 v (List.mem_of_getElem? hv)
        have hvr := hrv t v hv
        have q0 : ((0 : Int) ≤ (t : Int)) = True := eq_true (by omega)
        have q1 : (t < a.vars.length) = True := eq_true (by omega)
        have w1 : (v.lo < 0) = False := eq_false (by omega)
        have w2 : (v.hi ≤ v.lo) = False := eq_false (by omega)
        have w3 : ((a.code.length : Int) < v.hi) = False := eq_false (by omega)
        have fin := fun s => ih2 s (t + 1) (by omega) (by omega)
        simp -implicitDefEqProofs only [go_sem, Vr.row, e, hlv, hlc, hzv, hvr, q0, q1, w1, w2, w3, Option.some.injEq, forall_eq']
        exact ⟨by omega, fin _ (by simp -implicitDefEqProofs only [go_sem, Vr.row]; try omega)⟩
      · simp -implicitDefEqProofs only [go_sem, Vr.row, e]
end Go.Proofs.YtkibfcnieamdoaaGreatDoor
