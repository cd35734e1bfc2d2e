/-
  Numerals that are written as their numbers are; what is parsed by them alone is what is parsed and written the same. No program, no condition.
-/
import Derived.Test.YtcdfefcpbaiolaaGreatDoorTxt0
set_option linter.unusedVariables false
set_option linter.unusedSimpArgs false
set_option maxRecDepth 100000
set_option maxHeartbeats 0
namespace Go.Proofs.YtcdfefcpbaiolaaGreatDoor
open Go Go.Abs

def int64 (n : Int) : Prop := -9223372036854775808 ≤ n ∧ n ≤ 9223372036854775807
theorem digits_parse64 : ∀ (u : Nat), u ≤ 9223372036854775808 → ∀ r, Lib.parseUint10 0 (Lib.decDigits u ++ r) = Lib.parseUint10 u r := by
  intro u
  induction u using Nat.strongRecOn with
  | ind u ih =>
    intro hu r
    rw [Lib.decDigits]
    by_cases h : u < 10
    · rw [dif_pos h, List.singleton_append, Lib.parseUint10, digit_nat h, if_pos (by omega), if_neg (by omega), if_neg (by omega)]
      congr 1; omega
    · rw [dif_neg h, List.append_assoc, ih (u / 10) (by omega) (by omega), List.singleton_append, Lib.parseUint10, digit_nat (by omega), if_pos (by omega), if_neg (by omega), if_neg (by omega)]
      congr 1; omega
theorem digits_mag64 {u : Nat} (h : u ≤ 9223372036854775808) : Lib.parseMag (Lib.decDigits u) = .ok u := by
  unfold Lib.parseMag
  rw [if_neg (digits_ne u)]
  have := digits_parse64 u h []
  rw [List.append_nil] at this
  rw [this]; rfl
theorem itoa_atoi64 {n : Int} (hn : int64 n) : Lib.atoiAll (Lib.itoa n) = .ok n := by
  obtain ⟨h0, h1⟩ := hn
  unfold Lib.itoa
  by_cases h : n < 0
  · rw [if_pos h]
    unfold Lib.atoiAll
    have e : ((45 : UInt8).toNat = 43 ∨ (45 : UInt8).toNat = 45) := by decide
    simp only [if_pos e, digits_mag64 (show n.natAbs ≤ 9223372036854775808 by omega)]
    rw [if_neg (by simp), if_neg (by omega), if_pos (by decide)]
    congr 1; omega
  · rw [if_neg h]
    have hm := digits_mag64 (show n.toNat ≤ 9223372036854775808 by omega)
    have hi := digits_in n.toNat
    cases hd : Lib.decDigits n.toNat with
    | nil => exact absurd hd (digits_ne _)
    | cons c r =>
      rw [hd] at hm hi
      have hc := hi c List.mem_cons_self
      unfold Lib.atoiAll
      have e : ¬ (c.toNat = 43 ∨ c.toNat = 45) := by omega
      simp only [if_neg e, hm]
      have e2 : ¬ c.toNat = 45 := by omega
      rw [if_neg (by omega), if_neg (by omega), if_neg e2]
      congr 1; omega
theorem itoa_inj {n m : Int} (hn : int64 n) (hm : int64 m) (h : Lib.itoa n = Lib.itoa m) : n = m := by
  have h1 := itoa_atoi64 hn
  rw [h, itoa_atoi64 hm] at h1
  injection h1 with h1
  exact h1.symm

/-- What the bytes of a numeral come to. -/
def stepD (a : Nat) (c : UInt8) : Nat := a * 10 + (c.toNat - 48)
def valD (a : Nat) (l : List UInt8) : Nat := l.foldl stepD a
theorem valD_nil (a : Nat) : valD a [] = a := List.foldl_nil
theorem valD_cons0 (a : Nat) (c : UInt8) (r : List UInt8) : valD a (c :: r) = valD (stepD a c) r := List.foldl_cons
theorem valD_cons (a : Nat) (c : UInt8) (r : List UInt8) : valD a (c :: r) = valD (a * 10 + (c.toNat - 48)) r := by
  rw [valD_cons0, stepD]
theorem valD_app : ∀ (l m : List UInt8) (a : Nat), valD a (l ++ m) = valD (valD a l) m := by
  intro l
  induction l with
  | nil => intro m a; simp only [List.nil_append, valD_nil]
  | cons c l ih => intro m a; simp only [List.cons_append, valD_cons, ih]
theorem valD_digits : ∀ u : Nat, valD 0 (Lib.decDigits u) = u := by
  intro u
  induction u using Nat.strongRecOn with
  | ind u ih =>
    rw [Lib.decDigits]
    by_cases h : u < 10
    · rw [dif_pos h, valD_cons, digit_nat h, valD_nil]; omega
    · rw [dif_neg h, valD_app, ih (u / 10) (by omega), valD_cons, digit_nat (by omega), valD_nil]; omega
theorem valD_ge (l : List UInt8) : ∀ (a : Nat), a ≤ valD a l := by
  induction l with
  | nil => intro a; exact Nat.le_refl _
  | cons c l ih =>
    intro a
    have := ih (a * 10 + (c.toNat - 48))
    rw [valD_cons]; omega
theorem valD_ge10 {l : List UInt8} (h : l ≠ []) (a : Nat) : a * 10 ≤ valD a l := by
  cases l with
  | nil => exact absurd rfl h
  | cons c r =>
    have := valD_ge r (a * 10 + (c.toNat - 48))
    rw [valD_cons]; omega
theorem digits_len : ∀ (k u : Nat), u < 10 ^ (k + 1) → (Lib.decDigits u).length ≤ k + 1
  | 0, u, h => by
    rw [Lib.decDigits, dif_pos (by simpa using h)]; simp
  | k + 1, u, h => by
    rw [Lib.decDigits]
    by_cases c : u < 10
    · rw [dif_pos c]; simp
    · have := digits_len k (u / 10) (by rw [Nat.pow_succ] at h; omega)
      rw [dif_neg c, List.length_append, List.length_singleton]; omega

/-! Reading by numerals alone. -/
open Classical in
noncomputable def numC (w : List UInt8) : Option Int := if h : ∃ n, int64 n ∧ Lib.itoa n = w then some h.choose else none
theorem numC_itoa {n : Int} (h : int64 n) : numC (Lib.itoa n) = some n := by
  unfold numC
  have hx : ∃ m, int64 m ∧ Lib.itoa m = Lib.itoa n := ⟨n, h, rfl⟩
  rw [dif_pos hx]
  exact congrArg some (itoa_inj hx.choose_spec.1 h hx.choose_spec.2)
theorem numC_some {w : List UInt8} {n : Int} (h : numC w = some n) : int64 n ∧ Lib.itoa n = w := by
  unfold numC at h
  split at h
  · rename_i hx
    injection h with h
    rw [← h]; exact hx.choose_spec
  · cases h
noncomputable def readC : List Int → List (List UInt8) → Option (List Int × List (List UInt8))
  | [], l => some ([], l)
  | k :: ks, l => if k = 0 then (readC ks l).map fun p => (0 :: p.1, p.2) else
    match l with
    | [] => none
    | w :: r => match numC w with
      | some n => (readC ks r).map fun p => (n :: p.1, p.2)
      | none => none
/-- What is read so is what the other reads, and the words are the numerals' own. -/
theorem readC_some : ∀ (ks : List Int) (r : List (List UInt8)) (xs : List Int) (l : List (List UInt8)), readC ks r = some (xs, l) → readL ks r = some (xs, l) ∧ r = wordsL ks xs ++ l ∧ xs.length = ks.length
  | [], r, xs, l, h => by
    rw [readC] at h
    injection h with h; injection h with h1 h2
    subst h1; subst h2
    exact ⟨rfl, rfl, rfl⟩
  | k :: ks, r, xs, l, h => by
    rw [readC.eq_def] at h
    simp only at h
    rw [readL.eq_def]
    simp only
    by_cases hk : k = 0
    · rw [if_pos hk] at h ⊢
      obtain ⟨⟨xs', l'⟩, h1, h2⟩ := Option.map_eq_some_iff.1 h
      injection h2 with h2 h3
      simp only at h2 h3
      subst h2; subst h3
      obtain ⟨g1, g2, g3⟩ := readC_some ks r xs' l' h1
      exact ⟨by rw [g1]; rfl, by rw [wordsL, if_pos hk]; exact g2, by simp [g3]⟩
    · rw [if_neg hk] at h ⊢
      cases r with
      | nil => cases h
      | cons w r =>
        simp only at h ⊢
        cases hn : numC w with
        | none => rw [hn] at h; cases h
        | some n =>
          rw [hn] at h
          obtain ⟨⟨xs', l'⟩, h1, h2⟩ := Option.map_eq_some_iff.1 h
          injection h2 with h2 h3
          simp only at h2 h3
          subst h2; subst h3
          obtain ⟨hi, hw⟩ := numC_some hn
          obtain ⟨g1, g2, g3⟩ := readC_some ks r xs' l' h1
          have ha : Lib.atoiAll w = .ok n := hw ▸ itoa_atoi64 hi
          refine ⟨by simp only [ha, g1]; rfl, ?_, by simp [g3]⟩
          rw [wordsL, if_neg hk, hw, g2]; rfl
theorem readC_words : ∀ (ks xs : List Int), ks.length = xs.length → (∀ x ∈ xs, int64 x) → (∀ p ∈ ks.zip xs, p.1 = 0 → p.2 = 0) → readC ks (wordsL ks xs) = some (xs, [])
  | [], [], _, _, _ => rfl
  | [], _ :: _, h, _, _ => by cases h
  | _ :: _, [], h, _, _ => by cases h
  | k :: ks, x :: xs, h, hb, hz => by
    have ih := readC_words ks xs (by simpa using h) (fun y hy => hb y (List.mem_cons_of_mem _ hy)) (fun p hp => hz p (by rw [List.zip_cons_cons]; exact List.mem_cons_of_mem _ hp))
    by_cases hk : k = 0
    · rw [wordsL, if_pos hk]
      unfold readC
      rw [if_pos hk, ih]
      have := hz (k, x) (by rw [List.zip_cons_cons]; exact List.mem_cons_self) hk
      simp only at this
      rw [this]; rfl
    · have hx := hb x List.mem_cons_self
      rw [wordsL, if_neg hk]
      unfold readC
      rw [if_neg hk]
      simp only [numC_itoa hx, ih]
      rfl
end Go.Proofs.YtcdfefcpbaiolaaGreatDoor
