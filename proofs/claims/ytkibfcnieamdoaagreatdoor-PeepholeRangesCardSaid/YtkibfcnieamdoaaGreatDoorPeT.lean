/-
  Instructions removed: what is left, in plain terms. No condition.
-/
import Derived.Test.YtkibfcnieamdoaaGreatDoorFn
set_option linter.unusedVariables false
set_option linter.unusedSimpArgs false
set_option maxRecDepth 100000
namespace Go.Proofs.YtkibfcnieamdoaaGreatDoor
open Go.Abs
def numB (gone : Nat → Bool) : Nat → Nat
  | 0 => 0
  | k + 1 => numB gone k + (if gone k = true then 0 else 1)
theorem numB_le (gone : Nat → Bool) : ∀ k, numB gone k ≤ k
  | 0 => Nat.le_refl _
  | k + 1 => by rw [numB]; have := numB_le gone k; split <;> omega
theorem numB_mono (gone : Nat → Bool) {a : Nat} : ∀ {b}, a ≤ b → numB gone a ≤ numB gone b
  | 0, h => by rw [Nat.le_zero.1 h]; exact Nat.le_refl _
  | b + 1, h => by
    rcases Nat.lt_or_ge b a with h1 | h1
    · rw [show a = b + 1 from by omega]; exact Nat.le_refl _
    · show numB gone a ≤ numB gone b + _
      exact Nat.le_trans (numB_mono gone h1) (Nat.le_add_right _ _)
def keepN {α : Type} (gone : Nat → Bool) (l : List α) : Nat → List α
  | 0 => []
  | k + 1 => match l[k]? with
    | some x => if gone k = true then keepN gone l k else keepN gone l k ++ [x]
    | none => keepN gone l k
theorem keepN_len {α : Type} (gone : Nat → Bool) (l : List α) : ∀ k, k ≤ l.length → (keepN gone l k).length = numB gone k
  | 0, _ => rfl
  | k + 1, h => by
    obtain ⟨x, hx⟩ : ∃ x, l[k]? = some x := ⟨l[k]'(by omega), by simp⟩
    rw [keepN, numB, hx]
    have := keepN_len gone l k (by omega)
    dsimp only
    split
    · rw [this]; rfl
    · rw [List.length_append, this]; rfl
theorem keepN_gone {α : Type} {gone : Nat → Bool} {l : List α} {k : Nat} {x : α} (hx : l[k]? = some x) (h : gone k = true) : keepN gone l (k + 1) = keepN gone l k := by rw [keepN, hx]; simp [h]
theorem keepN_kept {α : Type} {gone : Nat → Bool} {l : List α} {k : Nat} {x : α} (hx : l[k]? = some x) (h : gone k = false) : keepN gone l (k + 1) = keepN gone l k ++ [x] := by rw [keepN, hx]; simp [h]
theorem keepN_sub {α : Type} (gone : Nat → Bool) (l : List α) : ∀ k, (keepN gone l k).Sublist (l.take k)
  | 0 => by simp [keepN]
  | k + 1 => by
    have ih := keepN_sub gone l k
    rw [keepN]
    cases hx : l[k]? with
    | none =>
      have : l.take (k + 1) = l.take k := by rw [List.take_add_one, hx]; simp
      rw [this]; exact ih
    | some x =>
      have : l.take (k + 1) = l.take k ++ [x] := by rw [List.take_add_one, hx]; rfl
      rw [this]
      dsimp only
      split
      · exact ih.trans (List.sublist_append_left _ _)
      · exact ih.append (List.Sublist.refl _)
theorem keepN_mem {α : Type} {gone : Nat → Bool} {l : List α} {k : Nat} {x : α} (h : x ∈ keepN gone l k) : x ∈ l := List.mem_of_mem_take ((keepN_sub gone l k).subset h)
def moveI (gone : Nat → Bool) (i : Ins) : Ins := if isJump i.op = true then { i with b := numB gone i.b.toNat } else i
def moveV (gone : Nat → Bool) (v : Vr) : Vr := { v with lo := numB gone v.lo.toNat, hi := numB gone v.hi.toNat }
def seenV (v : Vr) : Bool := decide (v.lo ≠ v.hi)
def removeF (gone : Nat → Bool) (p : Fn) : Fn := { p with code := (keepN gone p.code p.code.length).map (moveI gone), lines := if p.lines.length = 0 then [] else keepN gone p.lines p.code.length, vars := (p.vars.map (moveV gone)).filter seenV }
structure RemOK (p : Fn) : Prop where
  code : p.code.length ≤ 20000
  lines : p.lines.length = p.code.length ∨ p.lines.length = 0
  jumps : ∀ i ∈ p.code, isJump i.op = true → 0 ≤ i.b ∧ i.b ≤ p.code.length
  vars : ∀ v ∈ p.vars, (0 ≤ v.lo ∧ v.lo ≤ p.code.length) ∧ (0 ≤ v.hi ∧ v.hi ≤ p.code.length)
  most : p.vars.length ≤ 100000
def numR (gone : Nat → Bool) (n k : Nat) : List (List V) := (List.range n).map fun i => [.int .i64 (if i < k then (numB gone i : Int) else 0)]
theorem numR_len (gone : Nat → Bool) (n k : Nat) : (numR gone n k).length = n := by simp [numR]
theorem numR_zero (gone : Nat → Bool) (n : Nat) : numR gone n 0 = List.replicate n [.int .i64 0] := by
  unfold numR
  simp only [Nat.not_lt_zero, if_false]
  rw [List.map_const']; simp
theorem numR_at {gone : Nat → Bool} {n k i : Nat} (h : i < n) : (numR gone n k)[i]? = some [.int .i64 (if i < k then (numB gone i : Int) else 0)] := by simp [numR, h]
theorem numR_old {gone : Nat → Bool} {n k i : Nat} (h : i < n) (hk : i < k) : (numR gone n k)[i]? = some [.int .i64 (numB gone i : Int)] := by rw [numR_at h, if_pos hk]
theorem numR_set {gone : Nat → Bool} {n k : Nat} (h : k < n) : (numR gone n k).set k [.int .i64 (numB gone k : Int)] = numR gone n (k + 1) := by
  refine List.ext_getElem? fun i => ?_
  rw [List.getElem?_set]
  rcases Nat.lt_or_ge i n with hi | hi
  · rw [numR_at hi, numR_at hi]
    by_cases e : k = i
    · subst e
      rw [if_pos rfl, if_pos (by rw [numR_len]; exact hi), if_pos (Nat.lt_succ_self _)]
    · rw [if_neg e]
      by_cases hik : i < k
      · rw [if_pos hik, if_pos (by omega)]
      · rw [if_neg hik, if_neg (by omega)]
  · have h1 : (numR gone n k)[i]? = none := by simp [numR, hi]
    have h2 : (numR gone n (k + 1))[i]? = none := by simp [numR, hi]
    rw [h1, h2, if_neg (by omega)]
def mvL (gone : Nat → Bool) (l : List Ins) (j : Nat) : List Ins := (l.take j).map (moveI gone) ++ l.drop j
theorem mvL_len (gone : Nat → Bool) (l : List Ins) (j : Nat) : (mvL gone l j).length = l.length := by simp [mvL]; omega
theorem mvL_zero (gone : Nat → Bool) (l : List Ins) : mvL gone l 0 = l := by simp [mvL]
theorem mvL_all (gone : Nat → Bool) (l : List Ins) : mvL gone l l.length = l.map (moveI gone) := by simp [mvL]
theorem mvL_at {gone : Nat → Bool} {l : List Ins} {j : Nat} {i : Ins} (h : l[j]? = some i) : (mvL gone l j)[j]? = some i := by
  have hj := (List.getElem?_eq_some_iff.1 h).1
  unfold mvL
  rw [List.getElem?_append_right (by simp; omega)]
  simp only [List.length_map, List.length_take, Nat.min_eq_left (Nat.le_of_lt hj), Nat.sub_self, List.getElem?_drop, Nat.add_zero]
  exact h
theorem mvL_next {gone : Nat → Bool} {l : List Ins} {j : Nat} {i : Ins} (h : l[j]? = some i) : mvL gone l (j + 1) = (mvL gone l j).set j (moveI gone i) := by
  obtain ⟨hj, he⟩ := List.getElem?_eq_some_iff.1 h
  unfold mvL
  have e1 : l.take (j + 1) = l.take j ++ [i] := by rw [List.take_add_one, h]; rfl
  have e2 : l.drop j = i :: l.drop (j + 1) := by rw [List.drop_eq_getElem_cons hj, he]
  have hl : ((l.take j).map (moveI gone)).length = j := by simp; omega
  rw [e1, e2, List.set_append_right _ _ (by omega), hl, Nat.sub_self]
  simp
theorem mvL_same {gone : Nat → Bool} {l : List Ins} {j : Nat} {i : Ins} (h : l[j]? = some i) (hn : isJump i.op = false) : mvL gone l (j + 1) = mvL gone l j := by
  rw [mvL_next h]
  have hm : moveI gone i = i := by unfold moveI; rw [hn]; simp
  rw [hm]
  refine List.ext_getElem? fun x => ?_
  rw [List.getElem?_set]
  split
  · rename_i e
    subst e
    rw [mvL_at h, if_pos (List.getElem?_eq_some_iff.1 (mvL_at (gone := gone) h)).1]
  · rfl
def varsN (gone : Nat → Bool) (l : List Vr) (k : Nat) : List Vr := ((l.take k).map (moveV gone)).filter seenV
theorem varsN_all (gone : Nat → Bool) (l : List Vr) : varsN gone l l.length = (l.map (moveV gone)).filter seenV := by simp [varsN]
theorem varsN_next {gone : Nat → Bool} {l : List Vr} {k : Nat} {v : Vr} (h : l[k]? = some v) : varsN gone l (k + 1) = if numB gone v.lo.toNat = numB gone v.hi.toNat then varsN gone l k else varsN gone l k ++ [moveV gone v] := by
  unfold varsN
  rw [List.take_add_one, h, Option.toList_some, List.map_append, List.filter_append]
  by_cases e : numB gone v.lo.toNat = numB gone v.hi.toNat
  · rw [if_pos e]; simp [seenV, moveV, e]
  · rw [if_neg e]
    have : ¬ ((numB gone v.lo.toNat : Int) = numB gone v.hi.toNat) := by omega
    simp [seenV, moveV, this]
theorem varsN_len (gone : Nat → Bool) (l : List Vr) (k : Nat) : (varsN gone l k).length ≤ k := by
  unfold varsN
  refine Nat.le_trans (List.length_filter_le _ _) ?_
  simp; omega
end Go.Proofs.YtkibfcnieamdoaaGreatDoor
