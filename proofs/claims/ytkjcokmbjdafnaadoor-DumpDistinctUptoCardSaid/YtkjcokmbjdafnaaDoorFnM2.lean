/-
  Well-formed values. No condition.
-/
import Derived.Test.YtkjcokmbjdafnaaDoorFnM
set_option linter.unusedVariables false
set_option linter.unusedSimpArgs false
set_option maxRecDepth 100000
set_option maxHeartbeats 0
namespace Go.Proofs.YtkjcokmbjdafnaaDoor
open Go.Abs
attribute [local irreducible] CallS Run RndS
theorem gcd_pure (a b : Nat) : Pure Tryd.prog 72 [.int .i64 a, .int .i64 b] (.int .i64 (Nat.gcd a b)) := by
  refine Pure.of 0 (CallS.enter rational_gcd_ok (Nat.le_of_ble_eq_true rfl) (Run.go 100 ?_))
  simp -implicitDefEqProofs only [go_sem, initSl]
  refine Run.rounds (fun (x : Nat × Nat) => ⟨[(1, .int .i64 x.2), (0, .int .i64 x.1)], [], 0⟩) (fun x => Nat.gcd x.1 x.2 = Nat.gcd a b) (fun x => x.2) (a, b) (by simp -implicitDefEqProofs only [go_sem]) rfl ?_
  rintro ⟨x, y⟩ hg ih
  simp only at hg ih ⊢
  refine Run.unf rational_gcd_l0_eq (Run.go 100 ?_)
  by_cases h0 : y = 0
  · subst h0
    rw [Nat.gcd_zero_right] at hg
    simp -implicitDefEqProofs only [go_sem, hg]
  · have q0 : ((y : Int) = 0) = False := eq_false (by omega)
    have q1 : (x : Int).tmod (y : Int) = ((x % y : Nat) : Int) := (Int.ofNat_tmod x y).symm
    simp -implicitDefEqProofs only [go_sem, q0, q1]
    refine ih _ (y, x % y) ?_ (Nat.mod_lt _ (by omega)) (by simp -implicitDefEqProofs only [go_sem])
    simp only
    rw [← hg, Nat.gcd_comm x y, Nat.gcd_rec y x, Nat.gcd_comm]
def numOK (p q : Int) : Bool := decide (1 ≤ q) && (decide (q ≤ 2147483647) && (decide (-2147483647 ≤ p) && (decide (p ≤ 2147483647) && decide (Int.gcd p q = 1))))
theorem valid_num (p q : Int) : Pure Tryd.prog 63 [.agg [.int .i64 p, .int .i64 q]] (.bool (numOK p q)) := by
  refine Pure.of 0 (CallS.enter rational_Valid_ok (Nat.le_of_ble_eq_true rfl) (Run.go 100 ?_))
  by_cases h1 : 1 ≤ q
  case neg =>
    have : numOK p q = false := by simp [numOK, h1]
    simp -implicitDefEqProofs only [go_sem, initSl, h1, this]
  by_cases h2 : q ≤ 2147483647
  case neg =>
    have : numOK p q = false := by simp [numOK, h2]
    simp -implicitDefEqProofs only [go_sem, initSl, h1, h2, this]
  by_cases h3 : -2147483647 ≤ p
  case neg =>
    have : numOK p q = false := by simp [numOK, h3]
    simp -implicitDefEqProofs only [go_sem, initSl, h1, h2, h3, this]
  by_cases h4 : p ≤ 2147483647
  case neg =>
    have : numOK p q = false := by simp [numOK, h4]
    simp -implicitDefEqProofs only [go_sem, initSl, h1, h2, h3, h4, this]
  have hnum : numOK p q = decide (Int.gcd p q = 1) := by simp [numOK, h1, h2, h3, h4]
  have hg := gcd_pure p.natAbs q.natAbs
  have e1 : ((q.natAbs : Nat) : Int) = q := by omega
  have e3 : Nat.gcd p.natAbs q.natAbs = Int.gcd p q := rfl
  rw [e1, e3] at hg
  have e4 : (((p.gcd q : Nat) : Int) = 1) = (p.gcd q = 1) := propext (by omega)
  by_cases h5 : p < 0 - p
  · have e2 : ((p.natAbs : Nat) : Int) = 0 - p := by omega
    rw [e2] at hg
    simp -implicitDefEqProofs only [go_sem, initSl, h1, h2, h3, h4, h5, gt_iff_lt]
    refine ⟨by omega, ?_⟩
    refine CallS.pureF hg (by simp -implicitDefEqProofs only [go_sem]) ?_
    simp -implicitDefEqProofs only [go_sem, hnum, e3, e4]
  · have e2 : ((p.natAbs : Nat) : Int) = p := by omega
    rw [e2] at hg
    simp -implicitDefEqProofs only [go_sem, initSl, h1, h2, h3, h4, h5, gt_iff_lt]
    refine ⟨by omega, ?_⟩
    refine CallS.pureF hg (by simp -implicitDefEqProofs only [go_sem]) ?_
    simp -implicitDefEqProofs only [go_sem, hnum, e3, e4]
end Go.Proofs.YtkjcokmbjdafnaaDoor
