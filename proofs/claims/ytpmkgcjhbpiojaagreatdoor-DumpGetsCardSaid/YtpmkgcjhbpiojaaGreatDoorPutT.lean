/-
 A number put into an ascending list, step by step. No condition.
-/
import Derived.Test.YtpmkgcjhbpiojaaGreatDoorSetM
import Derived.Test.YtpmkgcjhbpiojaaGreatDoorWk
set_option linter.unusedVariables false
set_option linter.unusedSimpArgs false
set_option maxRecDepth 100000
set_option maxHeartbeats 0
namespace Go.Proofs.YtpmkgcjhbpiojaaGreatDoor
open Go.Abs
theorem F5.slI {b st i : Nat} : F5 (.sl b st i 0) (.isl []) := fun E x h => by
 cases h with
 | sl _ _ _ _ cap h1 h2 h3 => exact .isl0 _ _
 | sl0 _ _ _ a => exact .isl0 _ _
def Q7 (l : List Int) (r : Int) (k : Nat) : Bool := (l.take k).any fun x => decide (r ≤ x)
def A8Y (l : List Int) (r : Int) (k : Nat) : List Int := (l.take k).filter (fun x => decide (x < r)) ++ (if Q7 l r k then r :: (l.take k).filter (fun x => decide (r < x)) else [])
theorem B1z {l : List Int} {r x : Int} {k : Nat} (h : l[k]? = some x) : Q7 l r (k + 1) = (Q7 l r k || decide (r ≤ x)) := by
 unfold Q7
 rw [List.take_add_one, h, Option.toList_some, List.any_append]; simp
theorem C0p {l : List Int} (hl : Asc l) {r x : Int} {k : Nat} (h : l[k]? = some x) :
  A8Y l r (k + 1) = A8Y l r k ++ (if Q7 l r k = false ∧ r ≤ x then [r] else []) ++ (if x = r then [] else [x]) := by
 have hgt : Q7 l r k = true → r < x := by
  intro hd
  unfold Q7 at hd
  obtain ⟨y, hy, hr⟩ := List.any_eq_true.1 hd
  obtain ⟨j, hj, hjy⟩ := List.getElem_of_mem hy
  rw [List.length_take] at hj
  rw [List.getElem_take] at hjy
  have hk := (List.getElem?_eq_some_iff.1 h)
  obtain ⟨hk1, hk2⟩ := hk
  have := List.pairwise_iff_getElem.1 hl j k (by omega) hk1 (by omega)
  rw [hjy, hk2] at this
  have := of_decide_eq_true hr
  omega
 have hno : Q7 l r k = false → (l.take k).filter (fun x => decide (r < x)) = [] := by
  intro hd
  rw [List.filter_eq_nil_iff]
  intro y hy hr
  have h1 := of_decide_eq_true hr
  have : Q7 l r k = true := List.any_eq_true.2 ⟨y, hy, by simp; omega⟩
  rw [hd] at this; cases this
 have e := B1z (r := r) h
 unfold A8Y
 rw [List.take_add_one, h, Option.toList_some, List.filter_append, List.filter_append, e]
 cases hd : Q7 l r k with
 | true =>
  have := hgt hd
  simp [List.filter, show ¬ x < r by omega, this, show ¬ x = r by omega]
 | false =>
  rw [hno hd]
  by_cases c : r ≤ x
  ·by_cases e : x = r
   ·subst e; simp [List.filter]
   ·simp [List.filter, show ¬ x < r by omega, c, e, show r < x by omega]
  ·simp [List.filter, show x < r by omega, c, show ¬ x = r by omega]
theorem B9s (l : List Int) (r : Int) : A8Y l r 0 = [] := by simp [A8Y, Q7]
theorem C2w (l : List Int) (r : Int) (k : Nat) : (A8Y l r k).length ≤ 2 * l.length + 1 := by
 unfold A8Y
 have h1 := List.length_filter_le (fun x => decide (x < r)) (l.take k)
 have h2 := List.length_filter_le (fun x => decide (r < x)) (l.take k)
 have h3 : (l.take k).length ≤ l.length := by simp; omega
 split <;> simp <;> omega
theorem C1l (l : List Int) (r : Int) : B4b l r = (if Q7 l r l.length then A8Y l r l.length else A8Y l r l.length ++ [r]) := by
 unfold A8Y B4b
 rw [List.take_length]
 cases hd : Q7 l r l.length with
 | true => simp
 | false =>
  have : l.filter (fun x => decide (r < x)) = [] := by
   rw [List.filter_eq_nil_iff]
   intro y hy hr
   have h1 := of_decide_eq_true hr
   have : Q7 l r l.length = true := List.any_eq_true.2 ⟨y, by rw [List.take_length]; exact hy, by simp; omega⟩
   rw [hd] at this; cases this
  rw [this]; simp
end Go.Proofs.YtpmkgcjhbpiojaaGreatDoor
