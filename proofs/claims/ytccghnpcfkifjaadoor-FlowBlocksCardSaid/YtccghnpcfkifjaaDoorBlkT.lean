/-
  Basic blocks as data: where they begin, their bounds and successors. No condition.
-/
import Derived.Test.YtccghnpcfkifjaaDoorReachT
set_option linter.unusedVariables false
set_option linter.unusedSimpArgs false
set_option maxRecDepth 100000
namespace Go.Proofs.YtccghnpcfkifjaaDoor
open Go.Abs

/-- What instruction 'a' makes a beginning. -/
def mkB (code : List Ins) (a : Nat) (k : Int) : Bool :=
  match code[a]? with
  | some i => (isJump i.op && decide (k ∈ nextL code a)) || ((isJump i.op || !falls i.op) && decide (k = (a : Int) + 1))
  | none => false
/-- The beginnings that the first 'n' instructions make. -/
def stT (code : List Ins) (n : Nat) (k : Int) : Bool := decide (k = 0) || (List.range n).any fun a => mkB code a k
def stB (code : List Ins) (k : Int) : Bool := stT code code.length k
theorem stT_zero (code : List Ins) (k : Int) : stT code 0 k = decide (k = 0) := by simp [stT]
theorem stT_succ (code : List Ins) (n : Nat) (k : Int) : stT code (n + 1) k = (stT code n k || mkB code n k) := by
  simp [stT, List.range_succ, Bool.or_assoc]
theorem stB_zero (code : List Ins) : stB code 0 = true := by simp [stB, stT]
theorem stB_iff {code : List Ins} {k : Int} : stB code k = true ↔ k = 0 ∨ ∃ a, a < code.length ∧ mkB code a k = true := by
  simp [stB, stT]

/-- The blocks of the first 'n' instructions. -/
def blkT (code : List Ins) : Nat → List (Int × Int)
  | 0 => []
  | n + 1 => if stB code n then blkT code n ++ [((n : Int), (n : Int) + 1)] else (blkT code n).dropLast ++ ((blkT code n).getLast?.map fun b => (b.1, (n : Int) + 1)).toList
theorem blkT_yes {code : List Ins} {n : Nat} (h : stB code n = true) : blkT code (n + 1) = blkT code n ++ [((n : Int), (n : Int) + 1)] := by rw [blkT, if_pos h]
theorem blkT_no {code : List Ins} {n : Nat} {l : List (Int × Int)} {b : Int × Int} (h : stB code n = false) (hl : blkT code n = l ++ [b]) : blkT code (n + 1) = l ++ [(b.1, (n : Int) + 1)] := by
  rw [blkT, if_neg (by rw [h]; simp), hl]; simp
theorem blkT_ne (code : List Ins) : ∀ n, 0 < n → blkT code n ≠ []
  | 0, h => absurd h (Nat.lt_irrefl _)
  | n + 1, _ => by
    cases hs : stB code n with
    | true => rw [blkT_yes hs]; simp
    | false =>
      have h0 : 0 < n := by
        rcases Nat.eq_zero_or_pos n with rfl | h
        · rw [show ((0 : Nat) : Int) = 0 from rfl, stB_zero] at hs; cases hs
        · exact h
      rcases nil_or_snoc (blkT code n) with h | ⟨l, b, h⟩
      · exact absurd h (blkT_ne code n h0)
      · rw [blkT_no hs h]; simp
theorem blkT_len_le (code : List Ins) : ∀ n, (blkT code n).length ≤ n
  | 0 => Nat.le_refl _
  | n + 1 => by
    have ih := blkT_len_le code n
    cases hs : stB code n with
    | true => rw [blkT_yes hs]; simp; omega
    | false =>
      rcases nil_or_snoc (blkT code n) with h | ⟨l, b, h⟩
      · rw [blkT, if_neg (by rw [hs]; simp), h]; simp
      · rw [blkT_no hs h]; rw [h] at ih; simp at ih ⊢; omega
theorem blkT_mono (code : List Ins) (n : Nat) : (blkT code n).length ≤ (blkT code (n + 1)).length := by
  cases hs : stB code n with
  | true => rw [blkT_yes hs]; simp
  | false =>
    rcases nil_or_snoc (blkT code n) with h | ⟨l, b, h⟩
    · rw [h]; simp
    · rw [blkT_no hs h, h]; simp

/-- The number of the block that begins at an instruction. -/
def numT (code : List Ins) (n : Nat) (k : Int) : Option Nat := if 0 ≤ k ∧ k < n ∧ stB code k = true then some (blkT code k.toNat).length else none
def numB (code : List Ins) (k : Int) : Int := ((numT code code.length k).getD 0 : Nat)

/-- What is known of the blocks of the first 'n' instructions. -/
structure BI (code : List Ins) (n : Nat) (l : List (Int × Int)) : Prop where
  first : ∀ b, l[0]? = some b → b.1 = 0
  adj : ∀ (j : Nat) b c, l[j]? = some b → l[j + 1]? = some c → b.2 = c.1
  last : ∀ b, l.getLast? = some b → b.2 = n
  pos : ∀ b ∈ l, 0 ≤ b.1 ∧ b.1 < b.2 ∧ b.2 ≤ n
  start : ∀ b ∈ l, stB code b.1 = true
  mid : ∀ b ∈ l, ∀ k : Int, b.1 < k → k < b.2 → stB code k = false
  num : ∀ (j : Nat) b, l[j]? = some b → (blkT code b.1.toNat).length = j
theorem bi_at (code : List Ins) : ∀ n, BI code n (blkT code n)
  | 0 => ⟨by simp [blkT], by simp [blkT], by simp [blkT], by simp [blkT], by simp [blkT], by simp [blkT], by simp [blkT]⟩
  | n + 1 => by
    have ih := bi_at code n
    cases hs : stB code n with
    | true =>
      rw [blkT_yes hs]
      refine ⟨fun b hb => ?_, fun j b c hb hc => ?_, fun b hb => ?_, fun b hb => ?_, fun b hb => ?_, fun b hb k h1 h2 => ?_, fun j b hb => ?_⟩
      · rcases Nat.eq_zero_or_pos n with rfl | h0
        · simp [blkT] at hb; rw [← hb]
        · have := blkT_ne code n h0
          rw [List.getElem?_append_left (List.length_pos_iff.2 this)] at hb
          exact ih.first b hb
      · by_cases h1 : j + 1 < (blkT code n).length
        · rw [List.getElem?_append_left (by omega)] at hb
          rw [List.getElem?_append_left h1] at hc
          exact ih.adj j b c hb hc
        · have hl := (List.getElem?_eq_some_iff.1 hc).1
          simp at hl
          have hj : j + 1 = (blkT code n).length := by omega
          rw [List.getElem?_append_right (by omega), hj, Nat.sub_self] at hc
          simp at hc
          rw [List.getElem?_append_left (by omega)] at hb
          have : (blkT code n).getLast? = some b := by rw [List.getLast?_eq_getElem?, show (blkT code n).length - 1 = j by omega]; exact hb
          rw [ih.last b this, ← hc]
      · simp at hb; rw [← hb]; simp
      · rcases List.mem_append.1 hb with hb | hb
        · have := ih.pos b hb; omega
        · rw [List.mem_singleton.1 hb]; simp only; omega
      · rcases List.mem_append.1 hb with hb | hb
        · exact ih.start b hb
        · rw [List.mem_singleton.1 hb]; exact hs
      · rcases List.mem_append.1 hb with hb | hb
        · exact ih.mid b hb k h1 h2
        · rw [List.mem_singleton.1 hb] at h1 h2; simp at h1 h2; omega
      · by_cases h1 : j < (blkT code n).length
        · rw [List.getElem?_append_left h1] at hb
          exact ih.num j b hb
        · have hl := (List.getElem?_eq_some_iff.1 hb).1
          simp at hl
          have hj : j = (blkT code n).length := by omega
          rw [List.getElem?_append_right (by omega), hj, Nat.sub_self] at hb
          simp at hb
          rw [← hb, hj]; simp
    | false =>
      have h0 : 0 < n := by
        rcases Nat.eq_zero_or_pos n with rfl | h
        · rw [show ((0 : Nat) : Int) = 0 from rfl, stB_zero] at hs; cases hs
        · exact h
      rcases nil_or_snoc (blkT code n) with h | ⟨l, b0, h⟩
      · exact absurd h (blkT_ne code n h0)
      rw [blkT_no hs h]
      rw [h] at ih
      have hlast : b0.2 = n := ih.last b0 (by simp)
      have hb0 := ih.pos b0 (by simp)
      refine ⟨fun b hb => ?_, fun j b c hb hc => ?_, fun b hb => ?_, fun b hb => ?_, fun b hb => ?_, fun b hb k h1 h2 => ?_, fun j b hb => ?_⟩
      · cases l with
        | nil => simp at hb; rw [← hb]; exact ih.first b0 rfl
        | cons x l => simp at hb; rw [← hb]; exact ih.first x rfl
      · have hl := (List.getElem?_eq_some_iff.1 hc).1
        simp at hl
        rw [List.getElem?_append_left (by omega)] at hb
        by_cases h1 : j + 1 < l.length
        · rw [List.getElem?_append_left h1] at hc
          exact ih.adj j b c (by rw [List.getElem?_append_left (by omega)]; exact hb) (by rw [List.getElem?_append_left h1]; exact hc)
        · have hj : j + 1 = l.length := by omega
          rw [List.getElem?_append_right (by omega), hj, Nat.sub_self] at hc
          simp at hc
          rw [← hc]
          exact ih.adj j b b0 (by rw [List.getElem?_append_left (by omega)]; exact hb) (by rw [List.getElem?_append_right (by omega), hj]; simp)
      · simp at hb; rw [← hb]; simp
      · rcases List.mem_append.1 hb with hb | hb
        · have := ih.pos b (by simp [hb]); omega
        · rw [List.mem_singleton.1 hb]; simp; omega
      · rcases List.mem_append.1 hb with hb | hb
        · exact ih.start b (by simp [hb])
        · rw [List.mem_singleton.1 hb]; exact ih.start b0 (by simp)
      · rcases List.mem_append.1 hb with hb | hb
        · exact ih.mid b (by simp [hb]) k h1 h2
        · rw [List.mem_singleton.1 hb] at h1 h2
          simp at h1 h2
          by_cases hk : k = n
          · rw [hk]; exact hs
          · exact ih.mid b0 (by simp) k h1 (by omega)
      · by_cases h1 : j < l.length
        · rw [List.getElem?_append_left h1] at hb
          exact ih.num j b (by rw [List.getElem?_append_left h1]; exact hb)
        · have hl := (List.getElem?_eq_some_iff.1 hb).1
          simp at hl
          have hj : j = l.length := by omega
          rw [List.getElem?_append_right (by omega), hj, Nat.sub_self] at hb
          simp at hb
          rw [← hb, hj]
          have := ih.num l.length b0 (by rw [List.getElem?_append_right (by omega)]; simp)
          exact this

/-- A beginning is the first instruction of its block. -/
theorem blk_found {code : List Ins} : ∀ (n : Nat) {s : Nat}, s < n → stB code s = true → ∃ b, (blkT code n)[(blkT code s).length]? = some b ∧ b.1 = s
  | 0, s, h, _ => absurd h (Nat.not_lt_zero _)
  | n + 1, s, h, hs => by
    by_cases e : s = n
    · subst e
      rw [blkT_yes hs]
      exact ⟨_, by rw [List.getElem?_append_right (Nat.le_refl _), Nat.sub_self]; rfl, rfl⟩
    · obtain ⟨b, hb, hb1⟩ := blk_found n (show s < n by omega) hs
      have hlt := (List.getElem?_eq_some_iff.1 hb).1
      cases hn : stB code n with
      | true =>
        rw [blkT_yes hn]
        exact ⟨b, by rw [List.getElem?_append_left hlt]; exact hb, hb1⟩
      | false =>
        rcases nil_or_snoc (blkT code n) with h0 | ⟨l, b0, h0⟩
        · rw [h0] at hlt; simp at hlt
        · rw [blkT_no hn h0]
          rw [h0] at hb hlt
          by_cases h1 : (blkT code s).length < l.length
          · rw [List.getElem?_append_left h1] at hb
            exact ⟨b, by rw [List.getElem?_append_left h1]; exact hb, hb1⟩
          · simp at hlt
            have hj : (blkT code s).length = l.length := by omega
            rw [hj, List.getElem?_append_right (Nat.le_refl _), Nat.sub_self] at hb ⊢
            simp at hb ⊢
            rw [hb]; exact hb1
/-- The successors of a block's last instruction begin blocks. -/
theorem next_start {code : List Ins} {b : Int × Int} (hb : b ∈ blkT code code.length) {t : Int} (ht : t ∈ nextL code (b.2 - 1)) : stB code t = true ∧ 0 ≤ t ∧ t < code.length := by
  have hin := nextL_in ht
  refine ⟨?_, hin⟩
  have hp := (bi_at code code.length).pos b hb
  obtain ⟨a, ha⟩ : ∃ a : Nat, b.2 - 1 = a := ⟨(b.2 - 1).toNat, by omega⟩
  rw [ha] at ht
  have hal : a < code.length := by omega
  obtain ⟨i, hi⟩ : ∃ i, code[a]? = some i := ⟨code[a], by simp [hal]⟩
  cases hj : isJump i.op with
  | true => exact stB_iff.2 (.inr ⟨a, hal, by unfold mkB; rw [hi]; simp [hj, ht]⟩)
  | false =>
    have ht2 := ht
    unfold nextL at ht2
    rw [if_neg (by omega), Int.toNat_natCast, hi] at ht2
    simp only [mem_normZ_iff, tgtL, fallL, hj, Bool.false_eq_true, false_and, if_false, List.nil_append] at ht2
    split at ht2
    · rename_i hf
      have e : t = (a : Int) + 1 := by simpa using ht2
      -- the next block begins there
      obtain ⟨j, hjl, hje⟩ := List.getElem_of_mem hb
      have hjb : (blkT code code.length)[j]? = some b := by rw [List.getElem?_eq_getElem hjl, hje]
      by_cases hl : j + 1 < (blkT code code.length).length
      · have hc := List.getElem?_eq_getElem hl
        have h1 := (bi_at code code.length).adj j b _ hjb hc
        have h2 := (bi_at code code.length).start _ (List.getElem_mem hl)
        rw [← h1] at h2
        rwa [show t = b.2 by omega]
      · have : (blkT code code.length).getLast? = some b := by rw [List.getLast?_eq_getElem?, show (blkT code code.length).length - 1 = j by omega]; exact hjb
        have := (bi_at code code.length).last b this
        omega
    · simp at ht2
/-- Within a block an instruction has only the next one as successor. -/
theorem next_mid {code : List Ins} {k : Nat} (hk : k + 1 < code.length) (h : stB code ((k : Int) + 1) = false) : nextL code k = [(k : Int) + 1] := by
  obtain ⟨i, hi⟩ : ∃ i, code[k]? = some i := ⟨code[k]'(by omega), by simp⟩
  have hm : mkB code k ((k : Int) + 1) = false := by
    cases hb : mkB code k ((k : Int) + 1) with
    | false => rfl
    | true => rw [stB_iff.2 (.inr ⟨k, by omega, hb⟩)] at h; cases h
  unfold mkB at hm
  rw [hi] at hm
  simp only [decide_true, Bool.and_true, Bool.or_eq_false_iff, Bool.not_eq_eq_eq_not, Bool.not_false] at hm
  obtain ⟨_, hj, hf⟩ := hm
  unfold nextL
  rw [if_neg (by omega), Int.toNat_natCast, hi]
  simp only [tgtL, fallL, hj, hf, Bool.false_eq_true, false_and, if_false, List.nil_append, true_and]
  rw [if_pos (by omega), normZ_asc (asc_one _)]
end Go.Proofs.YtccghnpcfkifjaaDoor
