/-
  A number put into an ascending list, step by step. No condition.
-/
import Derived.Test.YtabdlpfhfmeppaaGreatDoorSetM
import Derived.Test.YtabdlpfhfmeppaaGreatDoorWk
set_option linter.unusedVariables false
set_option linter.unusedSimpArgs false
set_option maxRecDepth 100000
set_option maxHeartbeats 0
namespace Go.Proofs.YtabdlpfhfmeppaaGreatDoor
open Go.Abs
theorem SameV.slI {b st i : Nat} : SameV (.sl b st i 0) (.isl []) := fun E x h => by
  cases h with
  | sl _ _ _ _ cap h1 h2 h3 => exact .isl0 _ _
  | sl0 _ _ _ a => exact .isl0 _ _
def doneP (l : List Int) (r : Int) (k : Nat) : Bool := (l.take k).any fun x => decide (r ≤ x)
def outP (l : List Int) (r : Int) (k : Nat) : List Int := (l.take k).filter (fun x => decide (x < r)) ++ (if doneP l r k then r :: (l.take k).filter (fun x => decide (r < x)) else [])
theorem doneP_succ {l : List Int} {r x : Int} {k : Nat} (h : l[k]? = some x) : doneP l r (k + 1) = (doneP l r k || decide (r ≤ x)) := by
  unfold doneP
  rw [List.take_add_one, h, Option.toList_some, List.any_append]; simp
theorem outP_succ {l : List Int} (hl : Asc l) {r x : Int} {k : Nat} (h : l[k]? = some x) :
    outP l r (k + 1) = outP l r k ++ (if doneP l r k = false ∧ r ≤ x then [r] else []) ++ (if x = r then [] else [x]) := by
  have hgt : doneP l r k = true → r < x := by
    intro hd
    unfold doneP at hd
    obtain ⟨y, hy, hr⟩ := List.any_eq_true.1 hd
    obtain ⟨j, hj, hjy⟩ := List.getElem_of_mem hy
    rw [List.length_take] at hj
    rw [List.getElem_take] at hjy
    have hk := (List.getElem?_eq_some_iff.1 h)
    obtain ⟨hk1, hk2⟩ := hk
    have := List.pairwise_iff_getElem.1 hl j k (by omega) hk1 (by omega)
    rw [hjy, hk2] at this
    have := of_decide_eq_true hr
    omega
  have hno : doneP l r k = false → (l.take k).filter (fun x => decide (r < x)) = [] := by
    intro hd
    rw [List.filter_eq_nil_iff]
    intro y hy hr
    have h1 := of_decide_eq_true hr
    have : doneP l r k = true := List.any_eq_true.2 ⟨y, hy, by simp; omega⟩
    rw [hd] at this; cases this
  have e := doneP_succ (r := r) h
  unfold outP
  rw [List.take_add_one, h, Option.toList_some, List.filter_append, List.filter_append, e]
  cases hd : doneP l r k with
  | true =>
    have := hgt hd
    simp [List.filter, show ¬ x < r by omega, this, show ¬ x = r by omega]
  | false =>
    rw [hno hd]
    by_cases c : r ≤ x
    · by_cases e : x = r
      · subst e; simp [List.filter]
      · simp [List.filter, show ¬ x < r by omega, c, e, show r < x by omega]
    · simp [List.filter, show x < r by omega, c, show ¬ x = r by omega]
theorem outP_zero (l : List Int) (r : Int) : outP l r 0 = [] := by simp [outP, doneP]
theorem outP_len (l : List Int) (r : Int) (k : Nat) : (outP l r k).length ≤ 2 * l.length + 1 := by
  unfold outP
  have h1 := List.length_filter_le (fun x => decide (x < r)) (l.take k)
  have h2 := List.length_filter_le (fun x => decide (r < x)) (l.take k)
  have h3 : (l.take k).length ≤ l.length := by simp; omega
  split <;> simp <;> omega
theorem outP_all (l : List Int) (r : Int) : insZ l r = (if doneP l r l.length then outP l r l.length else outP l r l.length ++ [r]) := by
  unfold outP insZ
  rw [List.take_length]
  cases hd : doneP l r l.length with
  | true => simp
  | false =>
    have : l.filter (fun x => decide (r < x)) = [] := by
      rw [List.filter_eq_nil_iff]
      intro y hy hr
      have h1 := of_decide_eq_true hr
      have : doneP l r l.length = true := List.any_eq_true.2 ⟨y, by rw [List.take_length]; exact hy, by simp; omega⟩
      rw [hd] at this; cases this
    rw [this]; simp
end Go.Proofs.YtabdlpfhfmeppaaGreatDoor
