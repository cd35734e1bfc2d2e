/-
  Families of blocks, one for each number below a bound. No program, no condition.
-/
import Derived.Test.YtppcibdjmnpdhaaGreatDoorWk
set_option linter.unusedVariables false
set_option linter.unusedSimpArgs false
set_option maxRecDepth 100000
namespace Go.Abs
def famE (F : Nat → List (List V)) (S : Nat → Nat) (i : Nat) : Nat × Nat × Blk := (1000000000000 + i, S i, .rows 1 (F i))
theorem beq_fam' {k i : Nat} (h : k < 1000000000000) : Nat.beq (1000000000000 + i) k = false := by
  cases hb : Nat.beq (1000000000000 + i) k with
  | false => rfl
  | true => have := Nat.eq_of_beq_eq_true hb; omega
theorem Weak.of {s s' : St} (h1 : slotsW s.sl s'.sl) (h2 : ∀ e ∈ s'.h, e ∈ s.h) (h3 : s.n ≤ s'.n) : Weak s s' := ⟨slotsW_iff.1 h1, h2, h3⟩
theorem FrzS.of {st : Nat} {rs : List (List V)} {sl : List (Nat × V)} : ∀ {l : List (Nat × V)}, (∀ p ∈ l, p.2 = sget sl p.1) → FrzS st rs sl l
  | [], _ => trivial
  | p :: r, h => ⟨Frz.of (SameV.of_eq (h p List.mem_cons_self).symm), FrzS.of fun q hq => h q (List.mem_cons_of_mem _ hq)⟩
theorem FrzH.of {b st : Nat} {rs : List (List V)} {h : Heap} : ∀ {l : Heap}, (∀ e ∈ l, e ∈ h ∧ e.1 ≠ b) → FrzH b st rs h l
  | [], _ => trivial
  | e :: r, hm => ⟨⟨e.2.2, (hm e List.mem_cons_self).1, (hm e List.mem_cons_self).2, FrzB.of (.refl _)⟩, FrzH.of fun x hx => hm x (List.mem_cons_of_mem _ hx)⟩
theorem SameS.of {sl : List (Nat × V)} : ∀ {l : List (Nat × V)}, (∀ p ∈ l, p.2 = sget sl p.1) → SameS sl l
  | [], _ => trivial
  | p :: r, h => ⟨SameV.of_eq (h p List.mem_cons_self).symm, SameS.of fun q hq => h q (List.mem_cons_of_mem _ hq)⟩
theorem Wk.cell {b st b2 st2 a k n : Nat} {R T : List (List V)} {X : Heap} {sl sl' : List (Nat × V)} (hS : slotsW sl sl') (hb : b2 ≠ b) (hX : ∀ e ∈ X, e.1 ≠ b) (hk : k = R.length) :
    Wk ⟨sl, (b, st, .rows 1 R) :: (b2, st2, .rows 1 (T.set a [.sl b st 0 k])) :: X, n⟩ ⟨sl', (b2, st2, .rows 1 (T.set a [.isl R])) :: X, n⟩ := by
  refine Wk.freeze (b := b) (st := st) (sz := 1) (rs := R) List.mem_cons_self (FrzS.of (slotsW_iff.1 hS)) (.at 1 rfl hb (FrzB.rows (by simp) fun i r2 hi => ?_) (FrzH.of fun e he => ⟨by simp [he], hX e he⟩))
  rw [List.getElem?_set] at hi ⊢
  by_cases c : a = i
  · subst c
    rw [if_pos rfl] at hi ⊢
    split at hi
    · injection hi with hi
      subst hi
      rename_i h3
      exact ⟨[.sl b st 0 k], by rw [if_pos h3], ⟨Frz.all hk, trivial⟩⟩
    · cases hi
  · rw [if_neg c] at hi ⊢
    exact ⟨r2, hi, FrzL.same r2⟩
theorem SameB.set {T : List (List V)} {a b b2 st k : Nat} : SameB (.rows 1 (T.set a [.sl b st 0 k])) (.rows 1 (T.set a [.sl b2 st 0 k])) :=
  SameB.rows (by simp) fun i r2 hi => by
    rw [List.getElem?_set] at hi ⊢
    by_cases c : a = i
    · subst c
      rw [if_pos rfl] at hi ⊢
      split at hi
      · injection hi with hi
        subst hi
        rename_i h3
        exact ⟨[.sl b st 0 k], by rw [if_pos h3], ⟨SameV.sl, trivial⟩⟩
      · cases hi
    · rw [if_neg c] at hi ⊢
      exact ⟨r2, hi, SameL.refl r2⟩
end Go.Abs
