/-
  The text of an instruction and what it is parsed to, as lists: numerals, words. No program, no condition.
-/
import Derived.Test.YtnjbkhidikbeiaaGreatDoorOpT
import Derived.Lib.AtoiAll
import Derived.Lib.ItoaNum
import Derived.Lib.ItoaLen
import Derived.Lib.Split
set_option linter.unusedVariables false
set_option linter.unusedSimpArgs false
set_option maxRecDepth 100000
set_option maxHeartbeats 0
namespace Go.Proofs.YtnjbkhidikbeiaaGreatDoor
open Go Go.Abs

/-! Numerals. -/
theorem digit_nat {u : Nat} (h : u < 10) : (UInt8.ofNat (48 + u)).toNat = 48 + u := by
  rw [UInt8.toNat_ofNat']; omega
theorem digits_parse : ∀ (u : Nat), u < 1000000000 → ∀ r, Lib.parseUint10 0 (Lib.decDigits u ++ r) = Lib.parseUint10 u r := by
  intro u
  induction u using Nat.strongRecOn with
  | ind u ih =>
    intro hu r
    rw [Lib.decDigits]
    by_cases h : u < 10
    · rw [dif_pos h, List.singleton_append, Lib.parseUint10, digit_nat h, if_pos (by omega), if_neg (by omega), if_neg (by omega)]
      congr 1; omega
    · rw [dif_neg h, List.append_assoc, ih (u / 10) (by omega) (by omega), List.singleton_append, Lib.parseUint10, digit_nat (by omega), if_pos (by omega), if_neg (by omega), if_neg (by omega)]
      congr 1; omega
theorem digits_in : ∀ (u : Nat), ∀ c ∈ Lib.decDigits u, 48 ≤ c.toNat ∧ c.toNat ≤ 57 := by
  intro u
  induction u using Nat.strongRecOn with
  | ind u ih =>
    intro c hc
    rw [Lib.decDigits] at hc
    by_cases h : u < 10
    · rw [dif_pos h, List.mem_singleton] at hc
      rw [hc, digit_nat h]; omega
    · rw [dif_neg h] at hc
      rcases List.mem_append.1 hc with hc | hc
      · exact ih (u / 10) (by omega) c hc
      · rw [List.mem_singleton] at hc
        rw [hc, digit_nat (by omega)]; omega
theorem digits_ne (u : Nat) : Lib.decDigits u ≠ [] := by
  rw [Lib.decDigits]
  split
  · simp
  · simp
theorem digits_mag {u : Nat} (h : u < 1000000000) : Lib.parseMag (Lib.decDigits u) = .ok u := by
  unfold Lib.parseMag
  rw [if_neg (digits_ne u)]
  have := digits_parse u h []
  rw [List.append_nil] at this
  rw [this]; rfl
theorem itoa_atoi {n : Int} (h0 : -1000000 ≤ n) (h1 : n ≤ 1000000) : Lib.atoiAll (Lib.itoa n) = .ok n := by
  unfold Lib.itoa
  by_cases h : n < 0
  · rw [if_pos h]
    unfold Lib.atoiAll
    have e : ((45 : UInt8).toNat = 43 ∨ (45 : UInt8).toNat = 45) := by decide
    simp only [if_pos e, digits_mag (show n.natAbs < 1000000000 by omega)]
    rw [if_neg (by simp), if_neg (by omega), if_pos (by decide)]
    congr 1; omega
  · rw [if_neg h]
    have hm := digits_mag (show n.toNat < 1000000000 by omega)
    have hi := digits_in n.toNat
    cases hd : Lib.decDigits n.toNat with
    | nil => exact absurd hd (digits_ne _)
    | cons c r =>
      rw [hd] at hm hi
      have hc := hi c List.mem_cons_self
      unfold Lib.atoiAll
      have e : ¬ (c.toNat = 43 ∨ c.toNat = 45) := by omega
      simp only [if_neg e, hm]
      have e2 : ¬ c.toNat = 45 := by omega
      rw [if_neg (by omega), if_neg (by omega), if_neg e2]
      congr 1; omega
theorem itoa_in (n : Int) : (32 : UInt8) ∉ Lib.itoa n := by
  intro hm
  unfold Lib.itoa at hm
  split at hm
  · rcases List.mem_cons.1 hm with h | h
    · cases h
    · have := digits_in _ _ h; revert this; decide
  · have := digits_in _ _ hm; revert this; decide

/-! Words. -/
theorem index_hit : ∀ {w : List UInt8} (r : List UInt8), (32 : UInt8) ∉ w → Lib.index (w ++ 32 :: r) [32] = w.length
  | [], r, _ => by simp [Lib.index, List.isPrefixOf]
  | b :: w, r, h => by
    have hb : ¬ (32 : UInt8) = b := fun e => h (by rw [e]; exact List.mem_cons_self)
    have ih := index_hit (w := w) r fun e => h (List.mem_cons_of_mem _ e)
    rw [List.cons_append, Lib.index, ih]
    have : ([32] : List UInt8).isPrefixOf (b :: (w ++ 32 :: r)) = false := by simp [List.isPrefixOf, hb]
    rw [this]
    have h2 : (((w.length : Int)) == -1) = false := by simp
    simp only [h2, List.length_cons, Bool.false_eq_true, if_false]
    omega
theorem index_miss : ∀ {w : List UInt8}, (32 : UInt8) ∉ w → Lib.index w [32] = -1
  | [], _ => by simp [Lib.index]
  | b :: w, h => by
    have hb : ¬ (32 : UInt8) = b := fun e => h (by rw [e]; exact List.mem_cons_self)
    have ih := index_miss (w := w) fun e => h (List.mem_cons_of_mem _ e)
    rw [Lib.index, ih]
    have : ([32] : List UInt8).isPrefixOf (b :: w) = false := by simp [List.isPrefixOf, hb]
    rw [this]; rfl
theorem split_one {w : List UInt8} (h : (32 : UInt8) ∉ w) : Lib.split w [32] = [w] := by
  unfold Lib.split
  rw [Lib.count_miss (index_miss h)]
  rfl
theorem split_cons {w : List UInt8} (r : List UInt8) (h : (32 : UInt8) ∉ w) : Lib.split (w ++ 32 :: r) [32] = w :: Lib.split r [32] := by
  have hi := index_hit r h
  have hd : (w ++ 32 :: r).drop (w.length + 1) = r := by
    rw [List.drop_append]; simp
  have hc : Lib.count (w ++ 32 :: r) [32] = Lib.count r [32] + 1 := by
    rw [Lib.count_hit (by simp) hi]
    show 1 + Lib.count ((w ++ 32 :: r).drop (w.length + 1)) [32] = _
    rw [hd]; omega
  unfold Lib.split
  rw [hc, Lib.splitK]
  have h2 : (Lib.index (w ++ 32 :: r) [32] == -1) = false := by rw [hi]; simp
  rw [h2, hi]
  simp only [Bool.false_eq_true, if_false, Int.toNat_natCast, Nat.add_zero, List.take_left', List.length_singleton, hd]

/-! The fields of a text. -/
def piecesL : List Int → List Int → List UInt8
  | k :: ks, x :: xs => (if k = 0 then [] else 32 :: Lib.itoa x) ++ piecesL ks xs
  | _, _ => []
def wordsL : List Int → List Int → List (List UInt8)
  | k :: ks, x :: xs => if k = 0 then wordsL ks xs else Lib.itoa x :: wordsL ks xs
  | _, _ => []
theorem split_pieces : ∀ (ks xs : List Int) {w : List UInt8}, (32 : UInt8) ∉ w → Lib.split (w ++ piecesL ks xs) [32] = w :: wordsL ks xs
  | [], _, w, h => by simp only [piecesL, wordsL, List.append_nil]; exact split_one h
  | _ :: _, [], w, h => by simp only [piecesL, wordsL, List.append_nil]; exact split_one h
  | k :: ks, x :: xs, w, h => by
    rw [piecesL, wordsL]
    by_cases hk : k = 0
    · rw [if_pos hk, if_pos hk, List.nil_append]; exact split_pieces ks xs h
    · rw [if_neg hk, if_neg hk, List.cons_append, split_cons _ h, split_pieces ks xs (itoa_in x)]
/-- The fields read from the words behind the first one; what is left. -/
def readL : List Int → List (List UInt8) → Option (List Int × List (List UInt8))
  | [], l => some ([], l)
  | k :: ks, l => if k = 0 then (readL ks l).map fun p => (0 :: p.1, p.2) else
    match l with
    | [] => none
    | w :: r => match Lib.atoiAll w with
      | .ok n => (readL ks r).map fun p => (n :: p.1, p.2)
      | _ => none
theorem read_words : ∀ (ks xs : List Int), ks.length = xs.length → (∀ x ∈ xs, -1000000 ≤ x ∧ x ≤ 1000000) → (∀ p ∈ ks.zip xs, p.1 = 0 → p.2 = 0) → readL ks (wordsL ks xs) = some (xs, [])
  | [], [], _, _, _ => rfl
  | [], _ :: _, h, _, _ => by cases h
  | _ :: _, [], h, _, _ => by cases h
  | k :: ks, x :: xs, h, hb, hz => by
    have ih := read_words ks xs (by simpa using h) (fun y hy => hb y (List.mem_cons_of_mem _ hy)) (fun p hp => hz p (by rw [List.zip_cons_cons]; exact List.mem_cons_of_mem _ hp))
    by_cases hk : k = 0
    · rw [wordsL, if_pos hk]
      unfold readL
      rw [if_pos hk, ih]
      have := hz (k, x) (by rw [List.zip_cons_cons]; exact List.mem_cons_self) hk
      simp only at this
      rw [this]; rfl
    · have hx := hb x List.mem_cons_self
      rw [wordsL, if_neg hk]
      unfold readL
      rw [if_neg hk]
      simp only [itoa_atoi hx.1 hx.2, ih]
      rfl
theorem splitK_len : ∀ (k : Nat) (s : List UInt8), ∀ w ∈ Lib.splitK [32] 0 k s, w.length ≤ s.length
  | 0, s, w, h => by
    rw [Lib.splitK, List.mem_singleton] at h
    rw [h]; exact Nat.le_refl _
  | k + 1, s, w, h => by
    rw [Lib.splitK] at h
    split at h
    · rw [List.mem_singleton] at h
      rw [h]; exact Nat.le_refl _
    · rcases List.mem_cons.1 h with h | h
      · rw [h, List.length_take]; omega
      · have := splitK_len k _ w h
        rw [List.length_drop] at this
        omega
theorem split_len {s w : List UInt8} (h : w ∈ Lib.split s [32]) : w.length ≤ s.length := splitK_len _ _ w h
theorem itoa_len {n : Int} (h0 : -9223372036854775808 ≤ n) (h1 : n ≤ 9223372036854775807) : (Lib.itoa n).length ≤ 21 := Lib.itoa_length_le n h0 h1
theorem chk_fit1 {i : Ins} (h : chk i = 0) : isOp i.op = true ∧ ∀ p ∈ (frm i.op).ks.zip i.fs, p.1 = 0 → p.2 = 0 := by
  unfold chk at h
  cases ho : isOp i.op with
  | false => rw [ho] at h; simp at h
  | true =>
    refine ⟨rfl, ?_⟩
    rw [ho] at h
    simp only [Bool.true_eq_false, if_false] at h
    split at h
    · omega
    · rename_i hf
      rw [Bool.not_eq_false] at hf
      simp only [Bool.and_eq_true, fit1, decide_eq_true_eq] at hf
      obtain ⟨⟨⟨h1, h2⟩, h3⟩, h4⟩ := hf
      intro p hp
      simp only [Frm.ks, Ins.fs, List.zip_cons_cons, List.zip_nil_right, List.mem_cons, List.not_mem_nil, or_false] at hp
      rcases hp with rfl | rfl | rfl | rfl
      · exact h1
      · exact h2
      · exact h3
      · exact h4
theorem word_in (op : Int) : (32 : UInt8) ∉ (frm op).word := by
  unfold frm
  cases h : isOp op with
  | false => simp
  | true =>
    obtain ⟨n, rfl, h1, h2⟩ := isOp_nat h
    simp only [if_true, Int.toNat_natCast]
    have : ∀ n : Nat, n ≤ 29 → (32 : UInt8) ∉ (frmN n).word := by decide
    exact this n h2
def textL (i : Ins) : List UInt8 := if isOp i.op = true then (frm i.op).word ++ piecesL (frm i.op).ks i.fs else []
theorem text_split {i : Ins} (h : isOp i.op = true) : Lib.split (textL i) [32] = (frm i.op).word :: wordsL (frm i.op).ks i.fs := by
  unfold textL
  rw [if_pos h]
  exact split_pieces _ _ (word_in i.op)
theorem text_read {i : Ins} (h : chk i = 0) (hb : ∀ x ∈ i.fs, -1000000 ≤ x ∧ x ≤ 1000000) : readL (frm i.op).ks (wordsL (frm i.op).ks i.fs) = some (i.fs, []) :=
  read_words _ _ rfl hb (chk_fit1 h).2
end Go.Proofs.YtnjbkhidikbeiaaGreatDoor
