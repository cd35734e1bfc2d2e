/-
 The reference's Valid. No condition.
-/
import Derived.Test.YtpmkgcjhbpiojaaGreatDoorFnMa
set_option linter.unusedVariables false
set_option linter.unusedSimpArgs false
set_option maxRecDepth 100000
set_option maxHeartbeats 0
namespace Go.Proofs.YtpmkgcjhbpiojaaGreatDoor
open Go.Abs
attribute [local irreducible] A3 Run O3
theorem B9z (a b : Nat) : Pure Tryz.prog 109 [.int .i64 a, .int .i64 b] (.int .i64 (Nat.gcd a b)) := by
 refine Pure.of 0 (A3.enter A0S (Nat.le_of_ble_eq_true rfl) (Run.go 100 ?_))
 simp -implicitDefEqProofs only [go_sem, A8]
 refine Run.rounds (fun (x : Nat × Nat) => ⟨[(1, .int .i64 x.2), (0, .int .i64 x.1)], [], 0⟩) (fun x => Nat.gcd x.1 x.2 = Nat.gcd a b) (fun x => x.2) (a, b) (by simp -implicitDefEqProofs only [go_sem]) rfl ?_
 rintro ⟨x, y⟩ hg ih
 simp only at hg ih ⊢
 refine Run.unf A3E (Run.go 100 ?_)
 by_cases h0 : y = 0
 ·subst h0
  rw [Nat.gcd_zero_right] at hg
  simp -implicitDefEqProofs only [go_sem, hg]
 ·have q0 : ((y : Int) = 0) = False := eq_false (by omega)
  have q1 : (x : Int).tmod (y : Int) = ((x % y : Nat) : Int) := (Int.ofNat_tmod x y).symm
  simp -implicitDefEqProofs only [go_sem, q0, q1]
  refine ih _ (y, x % y) ?_ (Nat.mod_lt _ (by omega)) (by simp -implicitDefEqProofs only [go_sem])
  simp only
  rw [← hg, Nat.gcd_comm x y, Nat.gcd_rec y x, Nat.gcd_comm]
theorem B9x (z : Int) (h : -2147483647 ≤ z) : Pure Tryz.prog 110 [.int .i64 z] (.int .i64 z.natAbs) := by
 refine Pure.of 0 (A3.enter A0z (Nat.le_of_ble_eq_true rfl) (Run.go 100 ?_))
 by_cases c : z < 0
 ·have e : ((z.natAbs : Nat) : Int) = 0 - z := by omega
  have e2 : ((z.natAbs : Nat) : Int) = -z := by omega
  simp -implicitDefEqProofs only [go_sem, A8, c]
  omega
 ·have e : ((z.natAbs : Nat) : Int) = z := by omega
  simp -implicitDefEqProofs only [go_sem, A8, c, e]
theorem B8a (p q : Int) : Pure Tryz.prog 96 [.agg [.int .i64 p, .int .i64 q]] (.bool (S1 p q)) := by
 refine Pure.of 0 (A3.enter a6 (Nat.le_of_ble_eq_true rfl) (Run.go 100 ?_))
 by_cases h1 : 1 ≤ q
 case neg =>
  have : S1 p q = false := by simp [S1, h1]
  simp -implicitDefEqProofs only [go_sem, A8, h1, this, ge_iff_le]
 by_cases h2 : q ≤ 2147483647
 case neg =>
  have : S1 p q = false := by simp [S1, h2]
  simp -implicitDefEqProofs only [go_sem, A8, h1, h2, this, ge_iff_le]
 by_cases h4 : p ≤ 2147483647
 case neg =>
  have : S1 p q = false := by simp [S1, h4]
  simp -implicitDefEqProofs only [go_sem, A8, h1, h2, h4, this, ge_iff_le]
 by_cases h3 : -2147483647 ≤ p
 case neg =>
  have : S1 p q = false := by simp [S1, h3]
  simp -implicitDefEqProofs only [go_sem, A8, h1, h2, h3, h4, this, ge_iff_le]
 have hnum : S1 p q = decide (Int.gcd p q = 1) := by simp [S1, h1, h2, h3, h4]
 have ha := B9x p h3
 have hg := B9z p.natAbs q.natAbs
 have e1 : ((q.natAbs : Nat) : Int) = q := by omega
 have e3 : Nat.gcd p.natAbs q.natAbs = Int.gcd p q := rfl
 rw [e1, e3] at hg
 have e4 : (((p.gcd q : Nat) : Int) = 1) = (p.gcd q = 1) := propext (by omega)
 simp -implicitDefEqProofs only [go_sem, A8, h1, h2, h3, h4, ge_iff_le]
 repeat' first | refine And.intro ?_ ?_ | (refine A3.pureF ha (by simp -implicitDefEqProofs only [go_sem]) ?_; simp -implicitDefEqProofs only [go_sem]; refine A3.pureF hg (by simp -implicitDefEqProofs only [go_sem]) ?_; simp -implicitDefEqProofs only [go_sem, hnum, e3, e4]; done) | (refine A3.pureF ha (by simp -implicitDefEqProofs only [go_sem]) ?_; simp -implicitDefEqProofs only [go_sem])
theorem B9k (v : Kst) : ∃ b, (v.kind ≤ 3 → b = S3 v) ∧ Pure Tryz.prog 77 [.agg v.row] (.bool b) := by
 obtain ⟨kind, p, q, str, ref⟩ := v
 have hn := B8a p q
 simp only
 by_cases k0 : kind = 0
 ·subst k0
  refine ⟨_, fun _ => rfl, Pure.of 0 (A3.enter D1 (Nat.le_of_ble_eq_true rfl) (Run.go 100 ?_))⟩
  simp -implicitDefEqProofs only [go_sem, A8, Kst.row, S3]
  simp only [Bool.and_assoc]
 by_cases k1 : kind = 1
 ·subst k1
  refine ⟨_, fun _ => rfl, Pure.of 0 (A3.enter D1 (Nat.le_of_ble_eq_true rfl) (Run.go 100 ?_))⟩
  simp -implicitDefEqProofs only [go_sem, A8, Kst.row, S3]
  by_cases r0 : ref = 0 <;> by_cases r1 : ref = 1 <;> simp [r0, r1, Bool.and_assoc]
 by_cases k2 : kind = 2
 ·subst k2
  refine ⟨_, fun _ => rfl, Pure.of 0 (A3.enter D1 (Nat.le_of_ble_eq_true rfl) (Run.go 100 ?_))⟩
  simp -implicitDefEqProofs only [go_sem, A8, Kst.row, S3]
  cases (decide (str = []) && decide (ref = 0))
  ·exact ⟨fun h => absurd h (by decide), fun _ => (Bool.and_false _).symm⟩
  ·refine ⟨fun _ => ?_, fun h => absurd h (by decide)⟩
   refine A3.pureF hn (by simp -implicitDefEqProofs only [go_sem]) ?_
   simp -implicitDefEqProofs only [go_sem, Bool.and_true]
 by_cases k3 : kind = 3
 ·subst k3
  refine ⟨_, fun _ => rfl, Pure.of 0 (A3.enter D1 (Nat.le_of_ble_eq_true rfl) (Run.go 100 ?_))⟩
  simp -implicitDefEqProofs only [go_sem, A8, Kst.row, S3]
  by_cases r0 : (str.length : Int) ≤ 4096
  ·have r1 : str.length ≤ 4096 := by omega
   simp [r0, r1, Bool.and_assoc]
  ·have r1 : ¬ str.length ≤ 4096 := by omega
   simp [r0, r1]
 by_cases k6 : kind = 6
 ·subst k6
  refine ⟨decide (1 ≤ str.length) && (decide (str.length ≤ 4096) && (decide (p = 0) && (decide (q = 0) && decide (ref = 0)))), fun h => absurd h (by omega), Pure.of 0 (A3.enter D1 (Nat.le_of_ble_eq_true rfl) (Run.go 100 ?_))⟩
  simp -implicitDefEqProofs only [go_sem, A8, Kst.row, ge_iff_le]
  by_cases s0 : (1 : Int) ≤ (str.length : Int)
  ·have s1 : 1 ≤ str.length := by omega
   by_cases r0 : (str.length : Int) ≤ 4096
   ·have r1 : str.length ≤ 4096 := by omega
    simp [s0, s1, r0, r1, Bool.and_assoc]
   ·have r1 : ¬ str.length ≤ 4096 := by omega
    simp [s0, s1, r0, r1]
  ·have s1 : ¬ 1 ≤ str.length := by omega
   simp [s0, s1]
 have hx : ∀ z : Int, z = 4 ∨ z = 5 ∨ z = 7 ∨ z = 8 → Pure Tryz.prog 77 [.agg (Kst.row ⟨z, p, q, str, ref⟩)] (.bool (decide (p = 0) && (decide (q = 0) && (decide (str = []) && decide (1 ≤ ref))))) := by
  rintro z (rfl | rfl | rfl | rfl) <;>
  (refine Pure.of 0 (A3.enter D1 (Nat.le_of_ble_eq_true rfl) (Run.go 100 ?_))
   simp -implicitDefEqProofs only [go_sem, A8, Kst.row, ge_iff_le]
   by_cases a : p = 0 <;> by_cases b : q = 0 <;> by_cases c : str = [] <;> simp [a, b, c])
 by_cases k4 : kind = 4 ∨ kind = 5 ∨ kind = 7 ∨ kind = 8
 ·exact ⟨_, fun h => absurd h (by omega), hx kind k4⟩
 have e4 : (kind = 4) = False := eq_false (by omega)
 have e5 : (kind = 5) = False := eq_false (by omega)
 have e7 : (kind = 7) = False := eq_false (by omega)
 have e8 : (kind = 8) = False := eq_false (by omega)
 refine ⟨false, fun _ => by simp [S3, k0, k1, k2, k3], Pure.of 0 (A3.enter D1 (Nat.le_of_ble_eq_true rfl) (Run.go 100 ?_))⟩
 simp -implicitDefEqProofs only [go_sem, A8, Kst.row, k0, k1, k2, k3, k6, e4, e5, e7, e8]
end Go.Proofs.YtpmkgcjhbpiojaaGreatDoor
