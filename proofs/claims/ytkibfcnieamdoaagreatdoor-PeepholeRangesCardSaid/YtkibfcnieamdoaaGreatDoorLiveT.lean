/-
  Live registers: the least solution, and how it is reached from below. No program, no condition.
-/
import Derived.Test.YtkibfcnieamdoaaGreatDoorOps
set_option linter.unusedVariables false
set_option linter.unusedSimpArgs false
set_option maxRecDepth 100000
namespace Go.Proofs.YtkibfcnieamdoaaGreatDoor
open Go.Abs
inductive LiveR (U : Nat → Nat → Bool) (Nx : Nat → List Int) (D : Nat → Int → Nat → Bool) : Nat → Nat → Prop
  | use {a r : Nat} : U a r = true → LiveR U Nx D a r
  | flow {a r to_ : Nat} : (to_ : Int) ∈ Nx a → D a to_ r = false → LiveR U Nx D to_ r → LiveR U Nx D a r
noncomputable def liveB (U : Nat → Nat → Bool) (Nx : Nat → List Int) (D : Nat → Int → Nat → Bool) (a r : Nat) : Bool := @decide (LiveR U Nx D a r) (Classical.propDecidable _)
theorem liveB_iff {U : Nat → Nat → Bool} {Nx : Nat → List Int} {D : Nat → Int → Nat → Bool} {a r : Nat} : liveB U Nx D a r = true ↔ LiveR U Nx D a r := by
  unfold liveB; exact @decide_eq_true_iff _ (Classical.propDecidable _)
section
variable {U : Nat → Nat → Bool} {Nx : Nat → List Int} {D : Nat → Int → Nat → Bool}
def SoundM (U : Nat → Nat → Bool) (Nx : Nat → List Int) (D : Nat → Int → Nat → Bool) (M : Nat → Nat → Bool) : Prop := ∀ a r, M a r = true → LiveR U Nx D a r
def ClosedM (U : Nat → Nat → Bool) (Nx : Nat → List Int) (D : Nat → Int → Nat → Bool) (M : Nat → Nat → Bool) (a r : Nat) : Prop :=
  (U a r = true → M a r = true) ∧ ∀ to_ : Nat, (to_ : Int) ∈ Nx a → D a to_ r = false → M to_ r = true → M a r = true
theorem closed_live {M : Nat → Nat → Bool} {n N : Nat} (hin : ∀ a, ∀ x ∈ Nx a, 0 ≤ x ∧ x < (n : Int)) (hc : ∀ a r, a < n → r < N → ClosedM U Nx D M a r) {a r : Nat} (h : LiveR U Nx D a r) (ha : a < n) (hr : r < N) : M a r = true := by
  induction h with
  | use hu => exact (hc _ _ ha hr).1 hu
  | flow ht hd _ ih =>
    have := hin _ _ ht
    exact (hc _ _ ha hr).2 _ ht hd (ih (by omega) hr)
def markM (M : Nat → Nat → Bool) (a r : Nat) : Nat → Nat → Bool := fun x y => M x y || (decide (x = a) && decide (y = r))
theorem sound_mark {M : Nat → Nat → Bool} {a r : Nat} (h : SoundM U Nx D M) (hl : LiveR U Nx D a r) : SoundM U Nx D (markM M a r) := by
  intro x y hm
  simp only [markM, Bool.or_eq_true, Bool.and_eq_true, decide_eq_true_eq] at hm
  rcases hm with hm | ⟨rfl, rfl⟩
  · exact h _ _ hm
  · exact hl
def pairs (n N : Nat) : List (Nat × Nat) := (List.range n).flatMap fun a => (List.range N).map fun r => (a, r)
theorem mem_pairs {n N : Nat} {c : Nat × Nat} : c ∈ pairs n N ↔ c.1 < n ∧ c.2 < N := by
  simp only [pairs, List.mem_flatMap, List.mem_range, List.mem_map]
  constructor
  · rintro ⟨a, ha, r, hr, rfl⟩; exact ⟨ha, hr⟩
  · rintro ⟨h1, h2⟩; exact ⟨c.1, h1, c.2, h2, rfl⟩
def unM (n N : Nat) (M : Nat → Nat → Bool) : Nat := (pairs n N).countP fun c => !M c.1 c.2
theorem countP_lt {α : Type} {p q : α → Bool} : ∀ {l : List α}, (∀ c ∈ l, q c = true → p c = true) → ∀ {c : α}, c ∈ l → p c = true → q c = false → l.countP q < l.countP p
  | [], _, c, h, _, _ => by cases h
  | x :: l, hs, c, h, hp, hq => by
    have hle : l.countP q ≤ l.countP p := List.countP_mono_left fun y hy => hs y (List.mem_cons_of_mem _ hy)
    rcases List.mem_cons.1 h with rfl | h
    · rw [List.countP_cons, List.countP_cons, hp, hq]; simp; omega
    · have ih := countP_lt (fun y hy => hs y (List.mem_cons_of_mem _ hy)) h hp hq
      rw [List.countP_cons, List.countP_cons]
      have := hs x List.mem_cons_self
      cases h1 : q x
      · simp; omega
      · rw [this h1]; simp; omega
theorem unM_mark {n N : Nat} {M : Nat → Nat → Bool} {a r : Nat} (ha : a < n) (hr : r < N) (hm : M a r = false) : unM n N (markM M a r) < unM n N M := by
  refine countP_lt (c := (a, r)) (fun c _ h => ?_) (mem_pairs.2 ⟨ha, hr⟩) (by simp [hm]) (by simp [markM])
  simp only [markM, Bool.not_or, Bool.and_eq_true] at h
  exact h.1
def anyK (D : Nat → Int → Nat → Bool) (M : Nat → Nat → Bool) (nl : List Int) (a r k : Nat) : Bool := (nl.take k).any fun x => !D a x r && M x.toNat r
theorem anyK_zero {M : Nat → Nat → Bool} {nl : List Int} {a r : Nat} : anyK D M nl a r 0 = false := by simp [anyK]
theorem anyK_succ {M : Nat → Nat → Bool} {nl : List Int} {a r k : Nat} {x : Int} (h : nl[k]? = some x) : anyK D M nl a r (k + 1) = (anyK D M nl a r k || (!D a x r && M x.toNat r)) := by
  unfold anyK
  rw [List.take_add_one, h, Option.toList_some, List.any_append]; simp
theorem live_any {M : Nat → Nat → Bool} {a r : Nat} (hs : SoundM U Nx D M) (hin : ∀ x ∈ Nx a, 0 ≤ x) (h : (U a r || anyK D M (Nx a) a r (Nx a).length) = true) : LiveR U Nx D a r := by
  rw [Bool.or_eq_true] at h
  rcases h with h | h
  · exact .use h
  · unfold anyK at h
    rw [List.take_length] at h
    obtain ⟨x, hx, hm⟩ := List.any_eq_true.1 h
    simp only [Bool.and_eq_true, Bool.not_eq_true'] at hm
    have := hin x hx
    have e : ((x.toNat : Nat) : Int) = x := by omega
    exact .flow (to_ := x.toNat) (by rw [e]; exact hx) (by rw [e]; exact hm.1) (hs _ _ hm.2)
theorem closed_any {M : Nat → Nat → Bool} {a r : Nat} (h : (U a r || anyK D M (Nx a) a r (Nx a).length) = true → M a r = true) : ClosedM U Nx D M a r := by
  refine ⟨fun hu => h (by rw [hu]; rfl), fun to_ ht hd hm => h ?_⟩
  rw [Bool.or_eq_true]
  right
  unfold anyK
  rw [List.take_length]
  exact List.any_eq_true.2 ⟨to_, ht, by simp [hd, hm]⟩
end
end Go.Proofs.YtkibfcnieamdoaaGreatDoor
