/-
  The ranges of a function from which instructions were removed: the law's own test. No condition.
-/
import Derived.Test.YtkibfcnieamdoaaGreatDoorPeT
import Derived.Test.YtkibfcnieamdoaaGreatDoorFnCk
set_option linter.unusedVariables false
set_option linter.unusedSimpArgs false
set_option maxRecDepth 100000
set_option maxHeartbeats 0
namespace Go.Proofs.YtkibfcnieamdoaaGreatDoor
open Go.Abs
attribute [local irreducible] CallS Run
theorem sub_first : ∀ {m : List Int} {x : Int} {l : List Int}, (x :: l).Sublist m → ∃ j : Nat, m[j]? = some x ∧ (∀ i, i < j → m[i]? ≠ some x) ∧ l.Sublist (m.drop (j + 1))
  | [], x, l, h => by cases h
  | y :: m, x, l, h => by
    by_cases e : y = x
    · subst e
      refine ⟨0, rfl, fun i hi => absurd hi (Nat.not_lt_zero _), ?_⟩
      simp only [Nat.zero_add, List.drop_succ_cons, List.drop_zero]
      cases h with
      | cons _ h => exact (List.sublist_cons_self _ _).trans h
      | cons_cons _ h => exact h
    · cases h with
      | cons _ h =>
        obtain ⟨j, h1, h2, h3⟩ := sub_first h
        refine ⟨j + 1, by simpa using h1, fun i hi => ?_, by simpa using h3⟩
        cases i with
        | zero => simpa using e
        | succ i => simpa using h2 i (by omega)
      | cons_cons _ h => exact (e rfl).elim
structure RangeOK (a b : Fn) : Prop where
  lines : a.lines.length = a.code.length ∨ a.lines.length = 0
  some : a.lines.length = 0 ↔ b.lines.length = 0
  vars : a.vars.length ≤ b.vars.length
  sub : a.lines.Sublist b.lines
  each : ∀ v ∈ a.vars, 0 ≤ v.lo ∧ v.lo < v.hi ∧ v.hi ≤ a.code.length
theorem remove_range {p : Fn} (hok : RemOK p) (hv : ∀ v ∈ p.vars, v.lo ≤ v.hi) {gone : Nat → Bool} {k : Nat} (hk : k < p.code.length) (hg : gone k = false) : RangeOK (removeF gone p) p := by
  have hpos : 0 < numB gone p.code.length := by
    have h1 : numB gone (k + 1) = numB gone k + 1 := by rw [numB, hg]; simp
    have := numB_mono gone (show k + 1 ≤ p.code.length from hk)
    omega
  have hlen : (removeF gone p).code.length = numB gone p.code.length := by
    show ((keepN gone p.code p.code.length).map (moveI gone)).length = _
    rw [List.length_map, keepN_len gone _ _ (Nat.le_refl _)]
  have hll : (removeF gone p).lines = if p.lines.length = 0 then [] else keepN gone p.lines p.code.length := rfl
  refine ⟨?_, ?_, ?_, ?_, ?_⟩
  · rw [hll, hlen]
    by_cases e : p.lines.length = 0
    · rw [if_pos e]; exact .inr rfl
    · rw [if_neg e]
      have he := hok.lines.resolve_right e
      exact .inl (keepN_len gone _ _ (by omega))
  · rw [hll]
    by_cases e : p.lines.length = 0
    · rw [if_pos e]; simp [e]
    · rw [if_neg e]
      have he := hok.lines.resolve_right e
      have := keepN_len gone p.lines p.code.length (by omega)
      constructor
      · intro h; omega
      · intro h; exact (e h).elim
  · show ((p.vars.map (moveV gone)).filter seenV).length ≤ _
    refine Nat.le_trans (List.length_filter_le _ _) (by simp)
  · rw [hll]
    by_cases e : p.lines.length = 0
    · rw [if_pos e]; exact List.nil_sublist _
    · rw [if_neg e]
      exact (keepN_sub gone _ _).trans (List.take_sublist _ _)
  · intro v hvm
    obtain ⟨h1, h2⟩ := List.mem_filter.1 (show v ∈ (p.vars.map (moveV gone)).filter seenV from hvm)
    obtain ⟨u, hu, rfl⟩ := List.mem_map.1 h1
    obtain ⟨⟨a1, a2⟩, b1, b2⟩ := hok.vars u hu
    have hlh := hv u hu
    rw [hlen]
    have m1 := numB_mono gone (show u.lo.toNat ≤ u.hi.toNat from by omega)
    have m2 := numB_mono gone (show u.hi.toNat ≤ p.code.length from by omega)
    have hne : ¬ ((numB gone u.lo.toNat : Int) = numB gone u.hi.toNat) := by
      have h3 : seenV (moveV gone u) = true := h2
      unfold seenV at h3
      exact of_decide_eq_true h3
    exact ⟨by show (0 : Int) ≤ numB gone u.lo.toNat; omega, by show (numB gone u.lo.toNat : Int) < numB gone u.hi.toNat; omega, by show (numB gone u.hi.toNat : Int) ≤ (numB gone p.code.length : Nat); omega⟩
end Go.Proofs.YtkibfcnieamdoaaGreatDoor
