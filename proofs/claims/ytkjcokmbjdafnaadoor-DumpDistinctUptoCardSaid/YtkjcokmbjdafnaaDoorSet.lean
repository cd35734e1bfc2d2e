/-
  Sets of numbers as ascending lists; what sorting and compacting make of a list. No condition.
-/
import Derived.Test.YtkjcokmbjdafnaaDoorSrtS
import Derived.Test.YtkjcokmbjdafnaaDoorWk
set_option linter.unusedVariables false
set_option linter.unusedSimpArgs false
set_option maxRecDepth 100000
set_option maxHeartbeats 0
namespace Go.Proofs.YtkjcokmbjdafnaaDoor
open Go.Abs
attribute [local irreducible] CallS Run
theorem sort_m (zs : List Int) {m : Nat} (hl : zs.length = m) (hm : 0 < m) (hB : m ≤ 100000) (b st n : Nat) :
    CallS Tryd.prog 75 [.sl b st 0 m] [(b, st, .rows 1 (zs.map zrw))] n (fun r h' _ => r = .tup [] ∧ h' = [(b, st, .rows 1 ((sortZ zs).map zrw))]) := by
  subst hl; exact sort_c zs hm hB b st n
theorem compact_m (zs : List Int) {m : Nat} (hl : zs.length = m) (hm : 0 < m) (hB : m ≤ 100000) (b st n : Nat) :
    CallS Tryd.prog 76 [.sl b st 0 m] [(b, st, .rows 1 (zs.map zrw))] n
      (fun r h' _ => r = .sl b st 0 (Lib.compact zs).length ∧ h' = [(b, st, .rows 1 ((Lib.compact zs ++ List.replicate (m - (Lib.compact zs).length) 0).map zrw))]) := by
  subst hl; exact compact_c zs hm hB b st n
theorem frzZ (d : Nat) (h : Heap) (l : List Int) : (l.map zrw).map (fun r => r.map (frz d h)) = l.map zrw := by
  rw [List.map_map]
  exact List.map_congr_left fun y _ => by simp [zrw, frz_int]
def normZ (l : List Int) : List Int := Lib.compact (sortZ l)
theorem compact_take (zs : List Int) (m : Nat) : (((Lib.compact zs ++ List.replicate m 0).map zrw).take (Lib.compact zs).length) = (Lib.compact zs).map zrw := by
  rw [List.map_append]
  have : (Lib.compact zs).length = ((Lib.compact zs).map zrw).length := by simp
  rw [this, List.take_left]
theorem compactUpTo_mem (d : Array Int) : ∀ m j, j < m → d[j]! ∈ Lib.compactUpTo d m
  | 0, j, h => absurd h (Nat.not_lt_zero _)
  | m + 1, j, h => by
    rw [Lib.compactUpTo_succ]
    by_cases hj : j < m
    · exact List.mem_append.2 (.inl (compactUpTo_mem d m j hj))
    · obtain rfl : j = m := by omega
      cases hk : Lib.keeps d j with
      | true => simp
      | false =>
        have : ¬ (j = 0 ∨ d[j]! ≠ d[j - 1]!) := of_decide_eq_false hk
        have e : d[j]! = d[j - 1]! := by
          by_cases h2 : d[j]! = d[j - 1]!
          · exact h2
          · exact absurd (.inr h2) this
        have h0 : j ≠ 0 := fun h => this (.inl h)
        rw [e]
        exact List.mem_append.2 (.inl (compactUpTo_mem d j (j - 1) (by omega)))
theorem mem_compact_of {zs : List Int} {x : Int} (h : x ∈ zs) : x ∈ Lib.compact zs := by
  obtain ⟨j, hj, rfl⟩ := List.getElem_of_mem h
  have := compactUpTo_mem zs.toArray zs.length j hj
  simpa [Lib.compact, hj] using this
def Asc (l : List Int) : Prop := l.Pairwise (· < ·)
theorem mem_of_compactUpTo (d : Array Int) {x : Int} : ∀ m, m ≤ d.size → x ∈ Lib.compactUpTo d m → ∃ j, j < m ∧ d[j]! = x ∧ (∀ i, i < m → True)
  | m, hm, h => by
    unfold Lib.compactUpTo at h
    obtain ⟨j, h1, h2⟩ := List.mem_map.1 h
    have := List.mem_range.1 (List.mem_filter.1 h1).1
    exact ⟨j, this, h2, fun _ _ => trivial⟩
theorem mem_compact_iff {zs : List Int} {x : Int} : x ∈ Lib.compact zs ↔ x ∈ zs := by
  refine ⟨fun h => ?_, mem_compact_of⟩
  obtain ⟨j, h1, h2, _⟩ := mem_of_compactUpTo zs.toArray zs.length (by simp) h
  have : zs.toArray[j]! = zs[j] := by simp [h1]
  rw [this] at h2
  rw [← h2]
  exact List.getElem_mem h1
theorem mem_normZ_iff {l : List Int} {x : Int} : x ∈ normZ l ↔ x ∈ l := by
  unfold normZ sortZ
  rw [mem_compact_iff]
  exact (List.mergeSort_perm l _).mem_iff
theorem asc_compactUpTo (zs : List Int) (hs : zs.Pairwise (· ≤ ·)) : ∀ m, m ≤ zs.length → Asc (Lib.compactUpTo zs.toArray m)
  | 0, _ => by simp [Lib.compactUpTo, Asc]
  | m + 1, hm => by
    rw [Lib.compactUpTo_succ]
    have ih := asc_compactUpTo zs hs m (by omega)
    cases hk : Lib.keeps zs.toArray m with
    | false => simpa using ih
    | true =>
      simp only [if_true]
      refine List.pairwise_append.2 ⟨ih, by simp, fun a ha b hb => ?_⟩
      rw [List.mem_singleton.1 hb]
      obtain ⟨j, h1, h2, _⟩ := mem_of_compactUpTo zs.toArray m (by simp; omega) ha
      have hget : ∀ i (h : i < zs.length), zs.toArray[i]! = zs[i] := fun i h => by simp [h]
      rw [← h2, hget j (by omega), hget m (by omega)]
      have hk' := of_decide_eq_true hk
      have hle := List.pairwise_iff_getElem.1 hs
      rcases hk' with h0 | hne
      · omega
      · rw [hget m (by omega), hget (m - 1) (by omega)] at hne
        have a1 := hle (m - 1) m (by omega) (by omega) (by omega)
        by_cases e : j = m - 1
        · subst e; omega
        · have a2 := hle j (m - 1) (by omega) (by omega) (by omega)
          omega
theorem asc_normZ (l : List Int) : Asc (normZ l) := by
  refine asc_compactUpTo _ ?_ _ (Nat.le_refl _)
  unfold sortZ
  have := List.pairwise_mergeSort (le := fun x y : Int => decide (x ≤ y)) (fun a b c h1 h2 => by simp at *; omega) (fun a b => by simp; omega) l
  exact this.imp fun h => by simpa using h
theorem asc_nil : Asc [] := List.Pairwise.nil
theorem asc_one (x : Int) : Asc [x] := List.pairwise_singleton ..
def spanN (a : Int) (n : Nat) : List Int := (List.range n).map fun k => a + (k : Nat)
theorem spanN_succ (a : Int) (n : Nat) : spanN a (n + 1) = spanN a n ++ [a + (n : Nat)] := by simp [spanN, List.range_succ]
theorem spanN_len (a : Int) (n : Nat) : (spanN a n).length = n := by simp [spanN]
theorem mem_spanN {a x : Int} {n : Nat} : x ∈ spanN a n ↔ a ≤ x ∧ x < a + n := by
  unfold spanN
  simp only [List.mem_map, List.mem_range]
  constructor
  · rintro ⟨k, h1, rfl⟩; omega
  · rintro ⟨h1, h2⟩; exact ⟨(x - a).toNat, by omega, by omega⟩
theorem asc_spanN (a : Int) : ∀ n, Asc (spanN a n)
  | 0 => asc_nil
  | n + 1 => by
    rw [spanN_succ]
    refine List.pairwise_append.2 ⟨asc_spanN a n, by simp, fun x hx y hy => ?_⟩
    rw [List.mem_singleton.1 hy]
    have := mem_spanN.1 hx; omega
end Go.Proofs.YtkjcokmbjdafnaaDoor
