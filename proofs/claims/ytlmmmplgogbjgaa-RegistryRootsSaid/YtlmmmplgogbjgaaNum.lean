import Derived.Test.YtlmmmplgogbjgaaCode
set_option linter.unusedVariables false
set_option linter.unusedSimpArgs false
set_option maxRecDepth 100000
namespace Go.Proofs.Ytlmmmplgogbjgaa
open Go.Abs

theorem gcd_mod (c d : Int) (hc : 0 ≤ c) (hd : 0 ≤ d) : Int.gcd d (c.tmod d) = Int.gcd c d := by
  obtain ⟨a, rfl⟩ := Int.eq_ofNat_of_zero_le hc
  obtain ⟨b, rfl⟩ := Int.eq_ofNat_of_zero_le hd
  rw [← Int.ofNat_tmod, Int.gcd_natCast_natCast, Int.gcd_natCast_natCast, Nat.gcd_comm b, ← Nat.gcd_rec, Nat.gcd_comm]


theorem gcd_pure (a b : Int) (ha : 0 ≤ a) (hb : 0 ≤ b) : Pure Try.prog 45 [.int .i64 a, .int .i64 b] (.int .i64 (Int.gcd a b)) := by
  refine Pure.of 0 (CallS.enter rational_gcd_ok (Nat.le_of_ble_eq_true rfl) ?_)
  refine Run.go 100 ?_
  simp -implicitDefEqProofs only [go_sem, initSl]
  refine Run.rounds (fun (x : Int × Int) => ⟨[(0, .int .i64 x.1), (1, .int .i64 x.2)], [], 0⟩) (fun x => 0 ≤ x.1 ∧ 0 ≤ x.2 ∧ Int.gcd x.1 x.2 = Int.gcd a b) (fun x => x.2.toNat) (a, b) ?_ ⟨ha, hb, rfl⟩ ?_
  · simp -implicitDefEqProofs only [go_sem, initSl]
  · rintro ⟨c, d⟩ ⟨hc, hd, hg⟩ ih
    refine Run.unf rational_gcd_l0_eq (Run.go 100 ?_)
    simp -implicitDefEqProofs only [go_sem]
    refine ⟨fun h => ⟨h, ih _ (d, c.tmod d) ?_ ?_ ?_⟩, fun h => ?_⟩
    · exact ⟨hd, Int.tmod_nonneg _ hc, by rw [gcd_mod _ _ hc hd, hg]⟩
    · have h1 := Int.tmod_lt_of_pos c (show 0 < d by omega)
      have h2 := Int.tmod_nonneg d hc
      show (c.tmod d).toNat < d.toNat
      omega
    · simp -implicitDefEqProofs only [go_sem]
    · subst h
      have : (c, (0 : Int)).1.gcd (c, (0 : Int)).2 = c.natAbs := Int.gcd_zero_right c
      rw [this] at hg
      have h2 : 0 ≤ c := hc
      omega

def numValid (p q : Int) : Bool := decide (1 ≤ q ∧ q ≤ 2147483647 ∧ -2147483647 ≤ p ∧ p ≤ 2147483647 ∧ Int.gcd p q = 1)

theorem numValid_no {p q : Int} (h : ¬ (1 ≤ q ∧ q ≤ 2147483647 ∧ -2147483647 ≤ p ∧ p ≤ 2147483647)) : false = numValid p q := by
  unfold numValid
  rw [eq_comm, decide_eq_false_iff_not]
  exact fun h' => h ⟨h'.1, h'.2.1, h'.2.2.1, h'.2.2.2.1⟩
theorem numValid_yes {p q : Int} (h1 : 1 ≤ q) (h2 : q ≤ 2147483647) (h3 : -2147483647 ≤ p) (h4 : p ≤ 2147483647) {a : Int} (ha : a.natAbs = p.natAbs) : decide ((Int.gcd a q : Int) = 1) = numValid p q := by
  unfold numValid
  have : Int.gcd a q = Int.gcd p q := by unfold Int.gcd; rw [ha]
  rw [this]
  apply decide_eq_decide.2
  omega

theorem numValid_pure (p q : Int) : Pure Try.prog 40 [.agg [.int .i64 p, .int .i64 q]] (.bool (numValid p q)) := by
  refine Pure.of 0 (CallS.enter rational_Valid_ok (Nat.le_of_ble_eq_true rfl) ?_)
  refine Run.go 100 ?_
  simp -implicitDefEqProofs only [go_sem, initSl]
  refine ⟨fun h1 => ⟨fun h2 => ⟨fun h3 => ⟨fun h4 => ⟨by omega, ?_⟩, fun h => numValid_no (by omega)⟩, fun h => numValid_no (by omega)⟩, fun h => numValid_no (by omega)⟩, fun h => numValid_no (by omega)⟩
  refine CallS.pureF (gcd_pure _ _ (by split <;> omega) (by omega)) (by simp -implicitDefEqProofs only [go_sem]) ?_
  simp -implicitDefEqProofs only [go_sem]
  exact numValid_yes h1 h2 h3 h4 (by split <;> omega)
end Go.Proofs.Ytlmmmplgogbjgaa
