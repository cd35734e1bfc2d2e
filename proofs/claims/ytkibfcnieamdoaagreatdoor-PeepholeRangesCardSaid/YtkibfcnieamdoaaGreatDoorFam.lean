/-
  Families of blocks, one for each number below a bound. No program, no condition.
-/
import Derived.Test.YtkibfcnieamdoaaGreatDoorWk
set_option linter.unusedVariables false
set_option linter.unusedSimpArgs false
set_option maxRecDepth 100000
namespace Go.Abs
def famE (F : Nat → List (List V)) (S : Nat → Nat) (i : Nat) : Nat × Nat × Blk := (1000000000000 + i, S i, .rows 1 (F i))
def famH (F : Nat → List (List V)) (S : Nat → Nat) (m : Nat) : Heap := (List.range m).map (famE F S)
theorem famH_mem {F : Nat → List (List V)} {S : Nat → Nat} {m : Nat} {e : Nat × Nat × Blk} : e ∈ famH F S m ↔ ∃ i, i < m ∧ famE F S i = e := by
  simp only [famH, List.mem_map, List.mem_range]
theorem famH_zero {F : Nat → List (List V)} {S : Nat → Nat} : famH F S 0 = [] := rfl
theorem famH_succ {F : Nat → List (List V)} {S : Nat → Nat} {m : Nat} : famH F S (m + 1) = famH F S m ++ [famE F S m] := by
  simp [famH, List.range_succ]
theorem beq_fam' {k i : Nat} (h : k < 1000000000000) : Nat.beq (1000000000000 + i) k = false := by
  cases hb : Nat.beq (1000000000000 + i) k with
  | false => rfl
  | true => have := Nat.eq_of_beq_eq_true hb; omega
theorem get_app_none {l : Heap} {b st : Nat} : ∀ {h : Heap}, (∀ e ∈ h, e.1 ≠ b) → Heap.get (h ++ l) b st = Heap.get l b st
  | [], _ => rfl
  | e :: r, hn => by
    have h1 : Nat.beq e.1 b = false := by
      cases hb : Nat.beq e.1 b with
      | false => rfl
      | true => exact absurd (Nat.eq_of_beq_eq_true hb) (hn e List.mem_cons_self)
    rw [List.cons_append, Heap.get, h1, cond_false]
    exact get_app_none fun x hx => hn x (List.mem_cons_of_mem _ hx)
theorem get_app_some {l : Heap} {b st : Nat} {x : Blk} : ∀ {h : Heap}, Heap.get h b st = some x → Heap.get (h ++ l) b st = some x
  | [], h => by cases h
  | e :: r, h => by
    rw [List.cons_append, Heap.get]
    rw [Heap.get] at h
    cases hb : Nat.beq e.1 b with
    | true => rw [hb] at h; exact h
    | false => rw [hb] at h; exact get_app_some h
theorem famH_get {F : Nat → List (List V)} {S : Nat → Nat} {m i : Nat} (h : i < m) : Heap.get (famH F S m) (1000000000000 + i) (S i) = some (.rows 1 (F i)) := by
  induction m with
  | zero => omega
  | succ m ih =>
    rw [famH_succ]
    by_cases c : i < m
    · exact get_app_some (ih c)
    · obtain rfl : i = m := by omega
      rw [get_app_none (fun e he => by
        obtain ⟨j, hj, rfl⟩ := famH_mem.1 he
        simp only [famE]; omega)]
      simp [Heap.get, famE]
theorem famH_del {F : Nat → List (List V)} {S : Nat → Nat} {m b : Nat} (h : b < 1000000000000) : Heap.del (famH F S m) b = famH F S m := by
  refine List.filter_eq_self.2 fun e he => ?_
  obtain ⟨j, hj, rfl⟩ := famH_mem.1 he
  simp only [famE, beq_fam' h, Bool.not_false]
def updF (F : Nat → List (List V)) (i : Nat) (X : List (List V)) : Nat → List (List V) := fun j => if j = i then X else F j
theorem famH_put {F : Nat → List (List V)} {S : Nat → Nat} {m i : Nat} {X : List (List V)} {e : Nat × Nat × Blk} (h : e ∈ famH (updF F i X) S m) : e = (1000000000000 + i, S i, .rows 1 X) ∨ e ∈ Heap.del (famH F S m) (1000000000000 + i) := by
  obtain ⟨j, hj, rfl⟩ := famH_mem.1 h
  by_cases c : j = i
  · subst c; left; simp [famE, updF]
  · right
    refine Heap.mem_del.2 ⟨famH_mem.2 ⟨j, hj, by simp [famE, updF, c]⟩, by simp only [famE]; omega⟩
theorem Weak.of {s s' : St} (h1 : slotsW s.sl s'.sl) (h2 : ∀ e ∈ s'.h, e ∈ s.h) (h3 : s.n ≤ s'.n) : Weak s s' := ⟨slotsW_iff.1 h1, h2, h3⟩
theorem FrzS.of {st : Nat} {rs : List (List V)} {sl : List (Nat × V)} : ∀ {l : List (Nat × V)}, (∀ p ∈ l, p.2 = sget sl p.1) → FrzS st rs sl l
  | [], _ => trivial
  | p :: r, h => ⟨Frz.of (SameV.of_eq (h p List.mem_cons_self).symm), FrzS.of fun q hq => h q (List.mem_cons_of_mem _ hq)⟩
theorem FrzH.of {b st : Nat} {rs : List (List V)} {h : Heap} : ∀ {l : Heap}, (∀ e ∈ l, e ∈ h ∧ e.1 ≠ b) → FrzH b st rs h l
  | [], _ => trivial
  | e :: r, hm => ⟨⟨e.2.2, (hm e List.mem_cons_self).1, (hm e List.mem_cons_self).2, FrzB.of (.refl _)⟩, FrzH.of fun x hx => hm x (List.mem_cons_of_mem _ hx)⟩
theorem SameS.of {sl : List (Nat × V)} : ∀ {l : List (Nat × V)}, (∀ p ∈ l, p.2 = sget sl p.1) → SameS sl l
  | [], _ => trivial
  | p :: r, h => ⟨SameV.of_eq (h p List.mem_cons_self).symm, SameS.of fun q hq => h q (List.mem_cons_of_mem _ hq)⟩
theorem Wk.cell {b st b2 st2 a k n : Nat} {R T : List (List V)} {X : Heap} {sl sl' : List (Nat × V)} (hS : slotsW sl sl') (hb : b2 ≠ b) (hX : ∀ e ∈ X, e.1 ≠ b) (hk : k = R.length) :
    Wk ⟨sl, (b, st, .rows 1 R) :: (b2, st2, .rows 1 (T.set a [.sl b st 0 k])) :: X, n⟩ ⟨sl', (b2, st2, .rows 1 (T.set a [.isl R])) :: X, n⟩ := by
  refine Wk.freeze (b := b) (st := st) (sz := 1) (rs := R) List.mem_cons_self (FrzS.of (slotsW_iff.1 hS)) (.at 1 rfl hb (FrzB.rows (by simp) fun i r2 hi => ?_) (FrzH.of fun e he => ⟨by simp [he], hX e he⟩))
  rw [List.getElem?_set] at hi ⊢
  by_cases c : a = i
  · subst c
    rw [if_pos rfl] at hi ⊢
    split at hi
    · injection hi with hi
      subst hi
      rename_i h3
      exact ⟨[.sl b st 0 k], by rw [if_pos h3], ⟨Frz.all hk, trivial⟩⟩
    · cases hi
  · rw [if_neg c] at hi ⊢
    exact ⟨r2, hi, FrzL.same r2⟩
theorem Wk.cell0 {b2 st2 a n : Nat} {T : List (List V)} {X : Heap} {sl sl' : List (Nat × V)} (hS : slotsW sl sl') (hT : T[a]? = some [.nils]) :
    Wk ⟨sl, (b2, st2, .rows 1 T) :: X, n⟩ ⟨sl', (b2, st2, .rows 1 (T.set a [.isl []])) :: X, n⟩ := by
  refine Wk.turn id (SameS.of (slotsW_iff.1 hS)) (.at 0 rfl rfl (SameB.rows (by simp) fun i r2 hi => ?_) (SameH.of fun e he => ⟨e, by simp [he], rfl, rfl, .refl _⟩))
  rw [List.getElem?_set] at hi
  by_cases c : a = i
  · subst c
    rw [if_pos rfl] at hi
    split at hi
    · injection hi with hi
      subst hi
      exact ⟨_, hT, ⟨SameV.nilI, trivial⟩⟩
    · cases hi
  · rw [if_neg c] at hi
    exact ⟨r2, hi, SameL.refl r2⟩
theorem famH_join {F : Nat → List (List V)} {S : Nat → Nat} {a st b : Nat} {B : List (List V)} {g : Nat → Nat} {h : Heap} (hF : F a = B) (hg : g b = 1000000000000 + a) (hgo : ∀ j, j < a → g (1000000000000 + j) = 1000000000000 + j)
    (hm : (b, st, .rows 1 B) ∈ h) (ht : ∀ e ∈ famH F S a, e ∈ h) : SameH g h (famH F (fun i => if i = a then st else S i) (a + 1)) := by
  refine SameH.of fun e2 he => ?_
  obtain ⟨j, hj, rfl⟩ := famH_mem.1 he
  by_cases c : j = a
  · subst c
    exact ⟨_, hm, by simp [famE, hg], by simp [famE], SameB.of_eq (by simp [famE, hF])⟩
  · exact ⟨famE F S j, ht _ (famH_mem.2 ⟨j, by omega, rfl⟩), by simp only [famE]; rw [hgo j (by omega)], by simp [famE, c], .refl _⟩
theorem SameB.set {T : List (List V)} {a b b2 st k : Nat} : SameB (.rows 1 (T.set a [.sl b st 0 k])) (.rows 1 (T.set a [.sl b2 st 0 k])) :=
  SameB.rows (by simp) fun i r2 hi => by
    rw [List.getElem?_set] at hi ⊢
    by_cases c : a = i
    · subst c
      rw [if_pos rfl] at hi ⊢
      split at hi
      · injection hi with hi
        subst hi
        rename_i h3
        exact ⟨[.sl b st 0 k], by rw [if_pos h3], ⟨SameV.sl, trivial⟩⟩
      · cases hi
    · rw [if_neg c] at hi ⊢
      exact ⟨r2, hi, SameL.refl r2⟩
end Go.Abs
