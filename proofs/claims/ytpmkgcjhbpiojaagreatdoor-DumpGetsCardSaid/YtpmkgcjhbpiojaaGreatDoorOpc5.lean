/-
 What the reference's 'Check' answers: the same as the program's. No condition.
-/
import Derived.Test.YtpmkgcjhbpiojaaGreatDoorOpc4
set_option linter.unusedVariables false
set_option linter.unusedSimpArgs false
set_option maxRecDepth 100000
set_option maxHeartbeats 0
namespace Go.Proofs.YtpmkgcjhbpiojaaGreatDoor
open Go.Abs
attribute [local irreducible] A3 Run
-- EV: Ins.v, Ins.row, Shp.v, Shp.row, intsV, Ins.fs
def A0l (s : Shp) (i : Ins) : Int :=
 if (M4 s.ha i.a && M4 s.hb i.b && M4 s.hc i.c && M4 s.hd i.d) = false then 4
 else if (M7 s.ha s.la s.ma i.a && M7 s.hb s.lb s.mb i.b && M7 s.hc s.lc s.mc i.c && M7 s.hd s.ld s.md i.d) = false then 6
 else if i.op = 3 ∧ i.b < i.a ∨ B0e i > 4095 then 6
 else 0
theorem C2l {i : Ins} (h : U2 i.op = true) : C0q i = A0l (shp i.op) i := by
 unfold C0q; rw [if_neg (by rw [h]; simp)]; rfl
theorem C6i (op : Int) : (-1 ≤ (shp op).la ∧ (shp op).ma ≤ 40000) ∧ (-1 ≤ (shp op).lb ∧ (shp op).mb ≤ 40000) ∧ (-1 ≤ (shp op).lc ∧ (shp op).mc ≤ 40000) ∧ (U2 op = true → (shp op).word ≠ []) ∧ (U2 op = false → (shp op).word = []) := by
 cases h : U2 op with
 | false => rw [shp, if_neg (by rw [h]; simp)]; simp
 | true =>
  rcases A4k h with rfl | rfl | rfl | rfl | rfl | rfl | rfl | rfl | rfl | rfl | rfl | rfl | rfl | rfl | rfl | rfl | rfl | rfl | rfl | rfl | rfl | rfl | rfl | rfl | rfl | rfl | rfl | rfl | rfl <;> simp <;> decide
theorem B7y {h : Bool} {l m x : Int} (h1 : M4 h x = true) (h2 : M7 h l m x = true) (hl : -1 ≤ l) (hm : m ≤ 40000) : -1 ≤ x ∧ x ≤ 40000 := by
 cases h <;> simp [M4, M7] at h1 h2 <;> omega
theorem B4P (i : Ins) : Pure Tryz.prog 78 [i.v] (.int .i64 (C0q i)) := by
 refine Pure.of 0 (A3.enter k9 (Nat.le_of_ble_eq_true rfl) ?_)
 refine Run.go 100 ?_
 simp -implicitDefEqProofs only [go_sem, Ins.v, Ins.row, Shp.v, Shp.row, C3, Ins.fs, A8]
 refine A3.pureF (C0o i.op) (by simp -implicitDefEqProofs only [go_sem, Ins.v, Ins.row, Shp.v, Shp.row, C3, Ins.fs]) ?_
 simp -implicitDefEqProofs only [go_sem, Ins.v, Ins.row, Shp.v, Shp.row, C3, Ins.fs]
 refine A3.pureF (B4h i) (by simp -implicitDefEqProofs only [go_sem, Ins.v, Ins.row, Shp.v, Shp.row, C3, Ins.fs]) ?_
 simp -implicitDefEqProofs only [go_sem, Ins.v, Ins.row, Shp.v, Shp.row, C3, Ins.fs]
 obtain ⟨wa, wb, wc, w1, w0⟩ := C6i i.op
 refine ⟨fun h => ?_, fun h => ?_⟩
 ·cases hi : U2 i.op with
  | true => exact absurd h (w1 hi)
  | false => unfold C0q; rw [if_pos hi]
 have hi : U2 i.op = true := by
  cases hi : U2 i.op with
  | true => rfl
  | false => exact absurd (w0 hi) h
 rw [C2l hi]
 clear h w1 w0
 generalize shp i.op = s at wa wb wc ⊢
 refine Run.rounds (fun (j : Nat) => ⟨[(5, .int .i64 j), (4, .ptr (78 * 10000 + 4) 2 0 0), (3, .ptr (78 * 10000 + 3) 1 0 0), (1, .ptr (78 * 10000 + 1) 0 0 0)], [((78 * 10000 + 4), 2, .rows 4 [[.int .i64 i.a, .int .i64 i.b, .int .i64 i.c, .int .i64 i.d]]), ((78 * 10000 + 3), 1, .rows 13 [s.row]), ((78 * 10000 + 1), 0, .rows 5 [i.row])], 3⟩)
  (fun j => j ≤ 4 ∧ n4 j (M4 s.ha i.a) (M4 s.hb i.b) (M4 s.hc i.c) (M4 s.hd i.d)) (fun j => 4 - j) 0 (by simp -implicitDefEqProofs only [go_sem, Ins.v, Ins.row, Shp.v, Shp.row, C3, Ins.fs]) ⟨by omega, by simp [n4]⟩ ?_
 rintro j ⟨hj, h1⟩ ih
 have hcase : j = 0 ∨ j = 1 ∨ j = 2 ∨ j = 3 ∨ j = 4 := by omega
 rcases hcase with rfl | rfl | rfl | rfl | rfl
 rotate_left 4
 ·clear ih
  obtain ⟨q1, q2, q3, q4⟩ := h1
  have g1 := q1 (by omega)
  have g2 := q2 (by omega)
  have g3 := q3 (by omega)
  have g4 := q4 (by omega)
  clear q1 q2 q3 q4
  refine Run.unf E1 (Run.go 100 ?_)
  simp -implicitDefEqProofs only [go_sem, Ins.v, Ins.row, Shp.v, Shp.row, C3, Ins.fs]
  refine Run.rounds (fun (j : Nat) => ⟨[(6, .int .i64 j), (4, .ptr (78 * 10000 + 4) 2 0 0), (3, .ptr (78 * 10000 + 3) 1 0 0), (1, .ptr (78 * 10000 + 1) 0 0 0)], [((78 * 10000 + 4), 2, .rows 4 [[.int .i64 i.a, .int .i64 i.b, .int .i64 i.c, .int .i64 i.d]]), ((78 * 10000 + 3), 1, .rows 13 [s.row]), ((78 * 10000 + 1), 0, .rows 5 [i.row])], 3⟩)
   (fun j => j ≤ 4 ∧ n4 j (M7 s.ha s.la s.ma i.a) (M7 s.hb s.lb s.mb i.b) (M7 s.hc s.lc s.mc i.c) (M7 s.hd s.ld s.md i.d)) (fun j => 4 - j) 0 (by simp -implicitDefEqProofs only [go_sem, Ins.v, Ins.row, Shp.v, Shp.row, C3, Ins.fs]) ⟨by omega, by simp [n4]⟩ ?_
  rintro j ⟨hj, h1⟩ ih
  have hcase : j = 0 ∨ j = 1 ∨ j = 2 ∨ j = 3 ∨ j = 4 := by omega
  rcases hcase with rfl | rfl | rfl | rfl | rfl
  rotate_left 4
  ·clear ih
   obtain ⟨q1, q2, q3, q4⟩ := h1
   have r1 := q1 (by omega)
   have r2 := q2 (by omega)
   have r3 := q3 (by omega)
   have r4 := q4 (by omega)
   clear q1 q2 q3 q4
   have ra := B7y g1 r1 wa.1 wa.2
   have rb := B7y g2 r2 wb.1 wb.2
   have rc := B7y g3 r3 wc.1 wc.2
   have hc : A0l s i = if i.op = 3 ∧ i.b < i.a ∨ B0e i > 4095 then 6 else 0 := by
    unfold A0l; rw [g1, g2, g3, g4, r1, r2, r3, r4]; simp
   rw [hc]
   refine Run.unf E0 (Run.go 100 ?_)
   simp -implicitDefEqProofs only [go_sem, Ins.v, Ins.row, Shp.v, Shp.row, C3, Ins.fs]
   repeat' (first | refine And.intro ?_ ?_ | refine fun h => ?_)
   all_goals first
    | (simp [*]; done)
    | (refine A3.pureF (B6G i ra rb rc) (by simp -implicitDefEqProofs only [go_sem, Ins.v, Ins.row, Shp.v, Shp.row, C3, Ins.fs]) ?_
       simp -implicitDefEqProofs only [go_sem, Ins.v, Ins.row, Shp.v, Shp.row, C3, Ins.fs]
       repeat' (first | refine And.intro ?_ ?_ | refine fun h => ?_)
       all_goals (simp [*]; try omega))
  ·obtain ⟨q1, q2, q3, q4⟩ := h1
   refine Run.unf E0 (Run.go 100 ?_)
   simp -implicitDefEqProofs only [go_sem, Ins.v, Ins.row, Shp.v, Shp.row, C3, Ins.fs]
   have no : M7 s.ha s.la s.ma i.a = false → 6 = A0l s i := fun hn => by unfold A0l; rw [g1, g2, g3, g4, hn]; simp
   cases hh : s.ha <;> rw [hh] at no <;> simp -implicitDefEqProofs only [go_sem, Ins.v, Ins.row, Shp.v, Shp.row, C3, Ins.fs, hh]
   ·exact ih _ 1 ⟨by omega, fun _ => by rw [hh]; rfl, by omega, by omega, by omega⟩ (by omega) (by simp -implicitDefEqProofs only [go_sem, Ins.v, Ins.row, Shp.v, Shp.row, C3, Ins.fs, hh])
   ·repeat' (first | refine And.intro ?_ ?_ | refine fun h => ?_)
    all_goals first
     | exact no (by simp [M7]; omega)
     | exact ih _ 1 ⟨by omega, fun _ => by rw [hh]; simp [M7]; omega, by omega, by omega, by omega⟩ (by omega) (by simp -implicitDefEqProofs only [go_sem, Ins.v, Ins.row, Shp.v, Shp.row, C3, Ins.fs, hh])
  ·obtain ⟨q1, q2, q3, q4⟩ := h1
   have r1 := q1 (by omega)
   refine Run.unf E0 (Run.go 100 ?_)
   simp -implicitDefEqProofs only [go_sem, Ins.v, Ins.row, Shp.v, Shp.row, C3, Ins.fs]
   have no : M7 s.hb s.lb s.mb i.b = false → 6 = A0l s i := fun hn => by unfold A0l; rw [g1, g2, g3, g4, r1, hn]; simp
   cases hh : s.hb <;> rw [hh] at no <;> simp -implicitDefEqProofs only [go_sem, Ins.v, Ins.row, Shp.v, Shp.row, C3, Ins.fs, hh]
   ·exact ih _ 2 ⟨by omega, fun _ => q1 (by omega), fun _ => by rw [hh]; rfl, by omega, by omega⟩ (by omega) (by simp -implicitDefEqProofs only [go_sem, Ins.v, Ins.row, Shp.v, Shp.row, C3, Ins.fs, hh])
   ·repeat' (first | refine And.intro ?_ ?_ | refine fun h => ?_)
    all_goals first
     | exact no (by simp [M7]; omega)
     | exact ih _ 2 ⟨by omega, fun _ => q1 (by omega), fun _ => by rw [hh]; simp [M7]; omega, by omega, by omega⟩ (by omega) (by simp -implicitDefEqProofs only [go_sem, Ins.v, Ins.row, Shp.v, Shp.row, C3, Ins.fs, hh])
  ·obtain ⟨q1, q2, q3, q4⟩ := h1
   have r1 := q1 (by omega)
   have r2 := q2 (by omega)
   refine Run.unf E0 (Run.go 100 ?_)
   simp -implicitDefEqProofs only [go_sem, Ins.v, Ins.row, Shp.v, Shp.row, C3, Ins.fs]
   have no : M7 s.hc s.lc s.mc i.c = false → 6 = A0l s i := fun hn => by unfold A0l; rw [g1, g2, g3, g4, r1, r2, hn]; simp
   cases hh : s.hc <;> rw [hh] at no <;> simp -implicitDefEqProofs only [go_sem, Ins.v, Ins.row, Shp.v, Shp.row, C3, Ins.fs, hh]
   ·exact ih _ 3 ⟨by omega, fun _ => q1 (by omega), fun _ => q2 (by omega), fun _ => by rw [hh]; rfl, by omega⟩ (by omega) (by simp -implicitDefEqProofs only [go_sem, Ins.v, Ins.row, Shp.v, Shp.row, C3, Ins.fs, hh])
   ·repeat' (first | refine And.intro ?_ ?_ | refine fun h => ?_)
    all_goals first
     | exact no (by simp [M7]; omega)
     | exact ih _ 3 ⟨by omega, fun _ => q1 (by omega), fun _ => q2 (by omega), fun _ => by rw [hh]; simp [M7]; omega, by omega⟩ (by omega) (by simp -implicitDefEqProofs only [go_sem, Ins.v, Ins.row, Shp.v, Shp.row, C3, Ins.fs, hh])
  ·obtain ⟨q1, q2, q3, q4⟩ := h1
   have r1 := q1 (by omega)
   have r2 := q2 (by omega)
   have r3 := q3 (by omega)
   refine Run.unf E0 (Run.go 100 ?_)
   simp -implicitDefEqProofs only [go_sem, Ins.v, Ins.row, Shp.v, Shp.row, C3, Ins.fs]
   have no : M7 s.hd s.ld s.md i.d = false → 6 = A0l s i := fun hn => by unfold A0l; rw [g1, g2, g3, g4, r1, r2, r3, hn]; simp
   cases hh : s.hd <;> rw [hh] at no <;> simp -implicitDefEqProofs only [go_sem, Ins.v, Ins.row, Shp.v, Shp.row, C3, Ins.fs, hh]
   ·exact ih _ 4 ⟨by omega, fun _ => q1 (by omega), fun _ => q2 (by omega), fun _ => q3 (by omega), fun _ => by rw [hh]; rfl⟩ (by omega) (by simp -implicitDefEqProofs only [go_sem, Ins.v, Ins.row, Shp.v, Shp.row, C3, Ins.fs, hh])
   ·repeat' (first | refine And.intro ?_ ?_ | refine fun h => ?_)
    all_goals first
     | exact no (by simp [M7]; omega)
     | exact ih _ 4 ⟨by omega, fun _ => q1 (by omega), fun _ => q2 (by omega), fun _ => q3 (by omega), fun _ => by rw [hh]; simp [M7]; omega⟩ (by omega) (by simp -implicitDefEqProofs only [go_sem, Ins.v, Ins.row, Shp.v, Shp.row, C3, Ins.fs, hh])
 ·obtain ⟨q1, q2, q3, q4⟩ := h1
  refine Run.unf E1 (Run.go 100 ?_)
  simp -implicitDefEqProofs only [go_sem, Ins.v, Ins.row, Shp.v, Shp.row, C3, Ins.fs]
  have no : M4 s.ha i.a = false → 4 = A0l s i := fun hn => by unfold A0l; rw [hn]; simp
  cases hh : s.ha <;> rw [hh] at no <;> simp -implicitDefEqProofs only [go_sem, Ins.v, Ins.row, Shp.v, Shp.row, C3, Ins.fs, hh]
  ·repeat' (first | refine And.intro ?_ ?_ | refine fun h => ?_)
   all_goals first
    | exact no (by simp [M4]; omega)
    | exact ih _ 1 ⟨by omega, fun _ => by rw [hh]; simp [M4]; omega, by omega, by omega, by omega⟩ (by omega) (by simp -implicitDefEqProofs only [go_sem, Ins.v, Ins.row, Shp.v, Shp.row, C3, Ins.fs, hh])
  ·exact ih _ 1 ⟨by omega, fun _ => by rw [hh]; rfl, by omega, by omega, by omega⟩ (by omega) (by simp -implicitDefEqProofs only [go_sem, Ins.v, Ins.row, Shp.v, Shp.row, C3, Ins.fs, hh])
 ·obtain ⟨q1, q2, q3, q4⟩ := h1
  have r1 := q1 (by omega)
  refine Run.unf E1 (Run.go 100 ?_)
  simp -implicitDefEqProofs only [go_sem, Ins.v, Ins.row, Shp.v, Shp.row, C3, Ins.fs]
  have no : M4 s.hb i.b = false → 4 = A0l s i := fun hn => by unfold A0l; rw [r1, hn]; simp
  cases hh : s.hb <;> rw [hh] at no <;> simp -implicitDefEqProofs only [go_sem, Ins.v, Ins.row, Shp.v, Shp.row, C3, Ins.fs, hh]
  ·repeat' (first | refine And.intro ?_ ?_ | refine fun h => ?_)
   all_goals first
    | exact no (by simp [M4]; omega)
    | exact ih _ 2 ⟨by omega, fun _ => q1 (by omega), fun _ => by rw [hh]; simp [M4]; omega, by omega, by omega⟩ (by omega) (by simp -implicitDefEqProofs only [go_sem, Ins.v, Ins.row, Shp.v, Shp.row, C3, Ins.fs, hh])
  ·exact ih _ 2 ⟨by omega, fun _ => q1 (by omega), fun _ => by rw [hh]; rfl, by omega, by omega⟩ (by omega) (by simp -implicitDefEqProofs only [go_sem, Ins.v, Ins.row, Shp.v, Shp.row, C3, Ins.fs, hh])
 ·obtain ⟨q1, q2, q3, q4⟩ := h1
  have r1 := q1 (by omega)
  have r2 := q2 (by omega)
  refine Run.unf E1 (Run.go 100 ?_)
  simp -implicitDefEqProofs only [go_sem, Ins.v, Ins.row, Shp.v, Shp.row, C3, Ins.fs]
  have no : M4 s.hc i.c = false → 4 = A0l s i := fun hn => by unfold A0l; rw [r1, r2, hn]; simp
  cases hh : s.hc <;> rw [hh] at no <;> simp -implicitDefEqProofs only [go_sem, Ins.v, Ins.row, Shp.v, Shp.row, C3, Ins.fs, hh]
  ·repeat' (first | refine And.intro ?_ ?_ | refine fun h => ?_)
   all_goals first
    | exact no (by simp [M4]; omega)
    | exact ih _ 3 ⟨by omega, fun _ => q1 (by omega), fun _ => q2 (by omega), fun _ => by rw [hh]; simp [M4]; omega, by omega⟩ (by omega) (by simp -implicitDefEqProofs only [go_sem, Ins.v, Ins.row, Shp.v, Shp.row, C3, Ins.fs, hh])
  ·exact ih _ 3 ⟨by omega, fun _ => q1 (by omega), fun _ => q2 (by omega), fun _ => by rw [hh]; rfl, by omega⟩ (by omega) (by simp -implicitDefEqProofs only [go_sem, Ins.v, Ins.row, Shp.v, Shp.row, C3, Ins.fs, hh])
 ·obtain ⟨q1, q2, q3, q4⟩ := h1
  have r1 := q1 (by omega)
  have r2 := q2 (by omega)
  have r3 := q3 (by omega)
  refine Run.unf E1 (Run.go 100 ?_)
  simp -implicitDefEqProofs only [go_sem, Ins.v, Ins.row, Shp.v, Shp.row, C3, Ins.fs]
  have no : M4 s.hd i.d = false → 4 = A0l s i := fun hn => by unfold A0l; rw [r1, r2, r3, hn]; simp
  cases hh : s.hd <;> rw [hh] at no <;> simp -implicitDefEqProofs only [go_sem, Ins.v, Ins.row, Shp.v, Shp.row, C3, Ins.fs, hh]
  ·repeat' (first | refine And.intro ?_ ?_ | refine fun h => ?_)
   all_goals first
    | exact no (by simp [M4]; omega)
    | exact ih _ 4 ⟨by omega, fun _ => q1 (by omega), fun _ => q2 (by omega), fun _ => q3 (by omega), fun _ => by rw [hh]; simp [M4]; omega⟩ (by omega) (by simp -implicitDefEqProofs only [go_sem, Ins.v, Ins.row, Shp.v, Shp.row, C3, Ins.fs, hh])
  ·exact ih _ 4 ⟨by omega, fun _ => q1 (by omega), fun _ => q2 (by omega), fun _ => q3 (by omega), fun _ => by rw [hh]; rfl⟩ (by omega) (by simp -implicitDefEqProofs only [go_sem, Ins.v, Ins.row, Shp.v, Shp.row, C3, Ins.fs, hh])
theorem A6L (i : Ins) : Pure Tryz.prog 78 [i.v] (.int .i64 (chk i)) := C2W i ▸ B4P i
end Go.Proofs.YtpmkgcjhbpiojaaGreatDoor
