/-
  The reference's numbers and values: what valid ones are. No condition.
-/
import Derived.Test.YtlmmmplgogbjgaaVal
set_option linter.unusedVariables false
set_option linter.unusedSimpArgs false
set_option maxRecDepth 100000
namespace Go.Proofs.Ytlmmmplgogbjgaa
open Go.Abs
attribute [local irreducible] CallS Run

theorem rgcd_pure (a b : Int) (ha : 0 ≤ a) (hb : 0 ≤ b) : Pure Try.prog 46 [.int .i64 a, .int .i64 b] (.int .i64 (Int.gcd a b)) := by
  refine Pure.of 0 (CallS.enter scriptingref01_gcd_ok (Nat.le_of_ble_eq_true rfl) ?_)
  refine Run.go 100 ?_
  simp -implicitDefEqProofs only [go_sem, initSl]
  refine Run.rounds (fun (x : Int × Int) => ⟨[(0, .int .i64 x.1), (1, .int .i64 x.2)], [], 0⟩) (fun x => 0 ≤ x.1 ∧ 0 ≤ x.2 ∧ Int.gcd x.1 x.2 = Int.gcd a b) (fun x => x.2.toNat) (a, b) ?_ ⟨ha, hb, rfl⟩ ?_
  · simp -implicitDefEqProofs only [go_sem, initSl]
  · rintro ⟨c, d⟩ ⟨hc, hd, hg⟩ ih
    refine Run.unf scriptingref01_gcd_l0_eq (Run.go 100 ?_)
    simp -implicitDefEqProofs only [go_sem]
    refine ⟨fun h => ⟨h, ih _ (d, c.tmod d) ?_ ?_ ?_⟩, fun h => ?_⟩
    · exact ⟨hd, Int.tmod_nonneg _ hc, by rw [gcd_mod _ _ hc hd, hg]⟩
    · have h1 := Int.tmod_lt_of_pos c (show 0 < d by omega)
      have h2 := Int.tmod_nonneg d hc
      show (c.tmod d).toNat < d.toNat
      omega
    · simp -implicitDefEqProofs only [go_sem]
    · subst h
      have : (c, (0 : Int)).1.gcd (c, (0 : Int)).2 = c.natAbs := Int.gcd_zero_right c
      rw [this] at hg
      have h2 : 0 ≤ c := hc
      omega

theorem rabs_pure (a : Int) (h : -2147483647 ≤ a) (h' : a ≤ 2147483647) : Pure Try.prog 47 [.int .i64 a] (.int .i64 (a.natAbs : Nat)) := by
  refine Pure.of 0 (CallS.enter scriptingref01_abs_ok (Nat.le_of_ble_eq_true rfl) ?_)
  refine Run.go 100 ?_
  simp -implicitDefEqProofs only [go_sem, initSl]
  exact ⟨fun h => ⟨by omega, by omega⟩, fun h => by omega⟩

theorem rnumValid_pure (p q : Int) : Pure Try.prog 41 [.agg [.int .i64 p, .int .i64 q]] (.bool (numValid p q)) := by
  refine Pure.of 0 (CallS.enter scriptingref01_Valid_ok (Nat.le_of_ble_eq_true rfl) ?_)
  refine Run.go 100 ?_
  simp -implicitDefEqProofs only [go_sem, initSl]
  refine ⟨?_, ?_⟩
  all_goals
    refine ⟨fun h1 => ⟨fun h2 => ⟨fun h3 => ⟨fun h4 => ?_, fun h => numValid_no (by omega)⟩, fun h => numValid_no (by omega)⟩, fun h => numValid_no (by omega)⟩, fun h => numValid_no (by omega)⟩
    refine CallS.pureF (rabs_pure _ (by omega) (by omega)) (by simp -implicitDefEqProofs only [go_sem]) ?_
    simp -implicitDefEqProofs only [go_sem]
    refine CallS.pureF (rgcd_pure _ _ (by omega) (by omega)) (by simp -implicitDefEqProofs only [go_sem]) ?_
    simp -implicitDefEqProofs only [go_sem]
    exact numValid_yes (by omega) (by omega) (by omega) (by omega) (by omega)

theorem rValid_pure (k p q : Int) (s : List UInt8) (r : Int) : Pure Try.prog 32 [vV k p q s r] (.bool (vValid k p q s r)) := by
  refine Pure.of 0 (CallS.enter scriptingref11_Valid_ok (Nat.le_of_ble_eq_true rfl) ?_)
  refine Run.go 100 ?_
  simp -implicitDefEqProofs only [go_sem, initSl]
  have hcall : ∀ X : Res, X (.bool (numValid p q)) [(32 * 10000 + 1, 0, .rows 5 [[.int .i64 k, .int .i64 p, .int .i64 q, .str s, .int .i64 r]])] 1 → CallS Try.prog 41 [.agg [.int .i64 p, .int .i64 q]] [(32 * 10000 + 1, 0, .rows 5 [[.int .i64 k, .int .i64 p, .int .i64 q, .str s, .int .i64 r]])] 1 X :=
    fun X hX => CallS.pureF (rnumValid_pure p q) (by simp -implicitDefEqProofs only [go_sem]) hX
  repeat' (first | refine And.intro ?_ ?_ | refine fun h => ?_)
  all_goals try (refine hcall _ ?_; simp -implicitDefEqProofs only [go_sem])
  all_goals unfold vValid
  all_goals first
    | assumption
    | (simp [*]; done)
    | (by_cases hp : p = 0 <;> by_cases hq : q = 0 <;> by_cases hs : s = [] <;> by_cases hr : r = 0 <;> simp_all <;> omega)
end Go.Proofs.Ytlmmmplgogbjgaa
