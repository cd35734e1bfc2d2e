/-
 What the reference's 'Check' answers: the same. No condition.
-/
import Derived.Test.YtpmkgcjhbpiojaaGreatDoorOpc3
set_option linter.unusedVariables false
set_option linter.unusedSimpArgs false
set_option maxRecDepth 100000
set_option maxHeartbeats 0
namespace Go.Proofs.YtpmkgcjhbpiojaaGreatDoor
open Go.Abs
attribute [local irreducible] A3 Run
-- EV: Ins.v, Ins.row, Shp.v, Shp.row, intsV, Ins.fs
theorem C1a : ∀ n : Nat, 1 ≤ n → n ≤ 29 → Pure Tryz.prog 97 [.int .i64 n] (B8W n).v := by
 have key : ∀ n : Nat, n < 30 → (Nat.blt 0 n = true → eqR (exR Tryz.prog exT B2U 1000 5 1 97 [.int .i64 n]) (B8W n).v = true) := by
  have : (List.range 30).all (fun n => !Nat.blt 0 n || eqR (exR Tryz.prog exT B2U 1000 5 1 97 [.int .i64 n]) (B8W n).v) = true := by kernel_rfl
  intro n hn h0
  have := List.all_eq_true.1 this n (List.mem_range.2 hn)
  rw [h0] at this
  simpa using this
 intro n h1 h2
 exact Pure.execB (m := 1000) (d := 5) (fr := 1) A3Q A1i (key n (by omega) (Nat.ble_eq_true_of_le h1))
theorem B9p (w : List UInt8) : Pure Tryz.prog 120 [.str w] (Shp.v ⟨w, false, false, false, false, 0, 0, 0, 0, 0, 0, 0, 0⟩) := by
 refine Pure.of 0 (A3.enter A0j (Nat.le_of_ble_eq_true rfl) ?_)
 refine Run.go 100 ?_
 simp -implicitDefEqProofs only [go_sem, Ins.v, Ins.row, Shp.v, Shp.row, C3, Ins.fs, A8]
theorem C1H {op : Int} (h : ¬ (1 ≤ op ∧ op ≤ 29)) : Pure Tryz.prog 113 [.int .i64 op] (shp op).v := by
 have hs : shp op = ⟨[], false, false, false, false, 0, 0, 0, 0, 0, 0, 0, 0⟩ := by rw [shp, if_neg (by simp [U2]; omega)]
 rw [hs]
 refine Pure.of 0 (A3.enter Z7 (Nat.le_of_ble_eq_true rfl) ?_)
 have e : ∀ k : Int, 1 ≤ k → k ≤ 29 → ¬ op = k := fun k h1 h2 hk => h (hk ▸ ⟨h1, h2⟩)
 refine Run.go 100 ?_
 simp -implicitDefEqProofs only [go_sem, Ins.v, Ins.row, Shp.v, Shp.row, C3, Ins.fs, A8, e 14 (by omega) (by omega), e 15 (by omega) (by omega), e 16 (by omega) (by omega), e 17 (by omega) (by omega), e 18 (by omega) (by omega), e 19 (by omega) (by omega), e 20 (by omega) (by omega), e 21 (by omega) (by omega), e 22 (by omega) (by omega), e 23 (by omega) (by omega), e 24 (by omega) (by omega), e 25 (by omega) (by omega), e 26 (by omega) (by omega), e 27 (by omega) (by omega), e 28 (by omega) (by omega), e 29 (by omega) (by omega)]
 refine A3.pureF (B9p []) (by simp -implicitDefEqProofs only [go_sem, Ins.v, Ins.row, Shp.v, Shp.row, C3, Ins.fs]) ?_
 simp -implicitDefEqProofs only [go_sem, Ins.v, Ins.row, Shp.v, Shp.row, C3, Ins.fs]
theorem C3f {op : Int} (h : ¬ (1 ≤ op ∧ op ≤ 29)) : Pure Tryz.prog 97 [.int .i64 op] (shp op).v := by
 refine Pure.of 0 (A3.enter y0 (Nat.le_of_ble_eq_true rfl) ?_)
 have e : ∀ k : Int, 1 ≤ k → k ≤ 29 → ¬ op = k := fun k h1 h2 hk => h (hk ▸ ⟨h1, h2⟩)
 refine Run.go 100 ?_
 simp -implicitDefEqProofs only [go_sem, Ins.v, Ins.row, Shp.v, Shp.row, C3, Ins.fs, A8, e 1 (by omega) (by omega), e 2 (by omega) (by omega), e 3 (by omega) (by omega), e 4 (by omega) (by omega), e 5 (by omega) (by omega), e 6 (by omega) (by omega), e 7 (by omega) (by omega), e 8 (by omega) (by omega), e 9 (by omega) (by omega), e 10 (by omega) (by omega), e 11 (by omega) (by omega), e 12 (by omega) (by omega), e 13 (by omega) (by omega)]
 refine A3.pureF (C1H h) (by simp -implicitDefEqProofs only [go_sem, Ins.v, Ins.row, Shp.v, Shp.row, C3, Ins.fs]) ?_
 simp -implicitDefEqProofs only [go_sem, Ins.v, Ins.row, Shp.v, Shp.row, C3, Ins.fs]
theorem C0o (op : Int) : Pure Tryz.prog 97 [.int .i64 op] (shp op).v := by
 cases h : U2 op with
 | false => exact C3f (of_decide_eq_false h)
 | true =>
  obtain ⟨n, rfl, h1, h2⟩ := B5B h
  have := C1a n h1 h2
  rwa [show shp (n : Int) = B8W n by rw [shp, if_pos h]; rfl]
theorem B4h (i : Ins) : Pure Tryz.prog 98 [i.v] (.agg (C3 i.fs)) := by
 refine Pure.of 0 (A3.enter V7 (Nat.le_of_ble_eq_true rfl) ?_)
 refine Run.go 100 ?_
 simp -implicitDefEqProofs only [go_sem, Ins.v, Ins.row, Shp.v, Shp.row, C3, Ins.fs, A8]
theorem B4G (i : Ins) : Pure Tryz.prog 82 [i.v] (.tup [.int .i64 (if A5c i.op then i.b else 0), .bool (A5c i.op)]) := by
 have hj : A5c i.op = decide (i.op = 14 ∨ i.op = 15 ∨ i.op = 23 ∨ i.op = 24 ∨ i.op = 26) := rfl
 rw [hj]
 refine Pure.of 0 (A3.enter X3 (Nat.le_of_ble_eq_true rfl) ?_)
 refine Run.go 100 ?_
 simp -implicitDefEqProofs only [go_sem, Ins.v, Ins.row, Shp.v, Shp.row, C3, Ins.fs, A8]
 repeat' (first | refine And.intro ?_ ?_ | refine fun h => ?_)
 all_goals simp_all
theorem B6G (i : Ins) (h0 : -1 ≤ i.a ∧ i.a ≤ 40000) (h1 : -1 ≤ i.b ∧ i.b ≤ 40000) (h2 : -1 ≤ i.c ∧ i.c ≤ 40000) :
  Pure Tryz.prog 99 [i.v] (.int .i64 (B0e i)) := by
 refine Pure.of 0 (A3.enter i9 (Nat.le_of_ble_eq_true rfl) ?_)
 refine Run.go 100 ?_
 simp -implicitDefEqProofs only [go_sem, Ins.v, Ins.row, Shp.v, Shp.row, C3, Ins.fs, A8]
 repeat' (first | refine And.intro ?_ ?_ | refine fun h => ?_)
 all_goals first
  | (split <;> omega)
  | omega
  | (unfold B0e mx mm2; simp [*]; done)
end Go.Proofs.YtpmkgcjhbpiojaaGreatDoor
