/-
  Which instructions can be reached: paths by successors, and the marks of a search. No condition.
-/
import Derived.Test.YtkibfcnieamdoaaGreatDoorFlowN
set_option linter.unusedVariables false
set_option linter.unusedSimpArgs false
set_option maxRecDepth 100000
namespace Go.Proofs.YtkibfcnieamdoaaGreatDoor
open Go.Abs
theorem subI (φ : Nat → Nat → Nat → Nat → V) (ys : List Ins) : (ys.map Ins.row).map (fun r => r.map (V.sub φ)) = ys.map Ins.row := by
  rw [List.map_map]
  exact List.map_congr_left fun y _ => by simp [Ins.row, V.sub]
theorem nextL_in {code : List Ins} {at_ x : Int} (h : x ∈ nextL code at_) : 0 ≤ x ∧ x < code.length := by
  unfold nextL at h
  split at h
  · cases h
  · rename_i h0
    split at h
    · rw [mem_normZ_iff] at h
      rcases List.mem_append.1 h with h | h
      · unfold tgtL at h
        split at h
        · rename_i hc; rw [List.mem_singleton.1 h]; exact hc.2
        · cases h
      · unfold fallL at h
        split at h
        · rename_i hc; rw [List.mem_singleton.1 h]; exact ⟨by omega, hc.2⟩
        · cases h
    · cases h
theorem nextL_len2 (code : List Ins) (at_ : Int) : (nextL code at_).length ≤ 2 := by
  have h1 : ∀ l : List Int, (normZ l).length ≤ l.length := fun l => Nat.le_trans (Lib.compact_length_le _) (by simp [sortZ])
  unfold nextL
  split
  · simp
  split
  · refine Nat.le_trans (h1 _) ?_
    unfold tgtL fallL
    split <;> split <;> simp
  · simp
inductive Path (code : List Ins) : Nat → Prop
  | zero : 0 < code.length → Path code 0
  | step {i j : Nat} : Path code i → (j : Int) ∈ nextL code i → Path code j
noncomputable def reachB (code : List Ins) (i : Nat) : Bool := @decide (Path code i) (Classical.propDecidable _)
theorem reachB_iff {code : List Ins} {i : Nat} : reachB code i = true ↔ Path code i := by unfold reachB; simp
noncomputable def reachL (code : List Ins) : List Bool := (List.range code.length).map (reachB code)
theorem reachL_len (code : List Ins) : (reachL code).length = code.length := by simp [reachL]
theorem reachL_at {code : List Ins} {i : Nat} (h : i < code.length) : (reachL code)[i]? = some (reachB code i) := by simp [reachL, h]
theorem nil_or_snoc {α : Type} (l : List α) : l = [] ∨ ∃ L b, l = L ++ [b] := by
  rcases List.eq_nil_or_concat l with h | ⟨L, b, h⟩
  · exact .inl h
  · exact .inr ⟨L, b, by rw [h, List.concat_eq_append]⟩
def brw (b : Bool) : List V := [.bool b]
structure RI (code : List Ins) (ms : List Bool) (td : List Int) : Prop where
  len : ms.length = code.length
  tdin : ∀ t ∈ td, ∃ i : Nat, t = i ∧ ms[i]? = some true
  path : ∀ i : Nat, ms[i]? = some true → Path code i
  closed : ∀ i : Nat, ms[i]? = some true → (i : Int) ∈ td ∨ ∀ j : Nat, (j : Int) ∈ nextL code i → ms[j]? = some true
  zero : 0 < code.length → ms[0]? = some true
structure RJ (code : List Ins) (a k : Nat) (ms : List Bool) (td : List Int) : Prop where
  len : ms.length = code.length
  tdin : ∀ t ∈ td, ∃ i : Nat, t = i ∧ ms[i]? = some true
  path : ∀ i : Nat, ms[i]? = some true → Path code i
  closed : ∀ i : Nat, ms[i]? = some true → (i : Int) ∈ td ∨ i = a ∨ ∀ j : Nat, (j : Int) ∈ nextL code i → ms[j]? = some true
  zero : 0 < code.length → ms[0]? = some true
  cur : ms[a]? = some true
  done : ∀ j : Nat, (j : Int) ∈ (nextL code a).take k → ms[j]? = some true
theorem RI.fin {code : List Ins} {ms : List Bool} (h : RI code ms []) : ms = reachL code := by
  have hall : ∀ i, Path code i → ms[i]? = some true := by
    intro i hp
    induction hp with
    | zero h0 => exact h.zero h0
    | step _ hj ih =>
      rcases h.closed _ ih with h1 | h1
      · cases h1
      · exact h1 _ hj
  refine List.ext_getElem? fun i => ?_
  by_cases hi : i < code.length
  · rw [reachL_at hi]
    have : i < ms.length := by rw [h.len]; exact hi
    cases hb : ms[i] with
    | true =>
      have e : ms[i]? = some true := by simp [this, hb]
      rw [e, reachB_iff.2 (h.path i e)]
    | false =>
      have e : ms[i]? = some false := by simp [this, hb]
      rw [e]
      cases hr : reachB code i with
      | false => rfl
      | true => rw [hall i (reachB_iff.1 hr)] at e; cases e
  · rw [List.getElem?_eq_none (by rw [h.len]; omega), List.getElem?_eq_none (by rw [reachL_len]; omega)]
theorem RI.pop {code : List Ins} {ms : List Bool} {td : List Int} {t : Int} (h : RI code ms (td ++ [t])) : ∃ a : Nat, t = a ∧ a < code.length ∧ RJ code a 0 ms td := by
  obtain ⟨a, rfl, ha⟩ := h.tdin t (by simp)
  refine ⟨a, rfl, by rw [← h.len]; exact (List.getElem?_eq_some_iff.1 ha).1, ⟨h.len, fun t ht => h.tdin t (by simp [ht]), h.path, fun i hi => ?_, h.zero, ha, fun j hj => by simp at hj⟩⟩
  rcases h.closed i hi with h1 | h1
  · rcases List.mem_append.1 h1 with h1 | h1
    · exact .inl h1
    · exact .inr (.inl (by have := List.mem_singleton.1 h1; omega))
  · exact .inr (.inr h1)
theorem RJ.over {code : List Ins} {a k : Nat} {ms : List Bool} {td : List Int} (h : RJ code a k ms td) (hk : (nextL code a).length ≤ k) : RI code ms td := by
  refine ⟨h.len, h.tdin, h.path, fun i hi => ?_, h.zero⟩
  rcases h.closed i hi with h1 | h1 | h1
  · exact .inl h1
  · subst h1
    refine .inr fun j hj => h.done j ?_
    rwa [List.take_of_length_le hk]
  · exact .inr h1
theorem RJ.skip {code : List Ins} {a k j : Nat} {ms : List Bool} {td : List Int} (h : RJ code a k ms td) (hj : (nextL code a)[k]? = some (j : Int)) (hm : ms[j]? = some true) : RJ code a (k + 1) ms td := by
  refine ⟨h.len, h.tdin, h.path, h.closed, h.zero, h.cur, fun i hi => ?_⟩
  rw [List.take_add_one, hj] at hi
  rcases List.mem_append.1 hi with hi | hi
  · exact h.done i hi
  · have : i = j := Int.ofNat_inj.1 (by simpa using hi)
    subst this; exact hm
theorem RJ.mark {code : List Ins} {a k j : Nat} {ms : List Bool} {td : List Int} (h : RJ code a k ms td) (hj : (nextL code a)[k]? = some (j : Int)) (hm : ms[j]? = some false) : RJ code a (k + 1) (ms.set j true) (td ++ [(j : Int)]) := by
  have hjl : j < ms.length := (List.getElem?_eq_some_iff.1 hm).1
  have up : ∀ i : Nat, ms[i]? = some true → (ms.set j true)[i]? = some true := fun i hi => by
    rw [List.getElem?_set]
    split
    · rename_i e; subst e; simp [hjl]
    · exact hi
  have dn : ∀ i : Nat, (ms.set j true)[i]? = some true → i = j ∨ ms[i]? = some true := fun i hi => by
    rw [List.getElem?_set] at hi
    split at hi
    · rename_i e; exact .inl e.symm
    · exact .inr hi
  have hself : (ms.set j true)[j]? = some true := by simp [hjl]
  refine ⟨by rw [List.length_set]; exact h.len, fun t ht => ?_, fun i hi => ?_, fun i hi => ?_, fun h0 => up 0 (h.zero h0), up a h.cur, fun i hi => ?_⟩
  · rcases List.mem_append.1 ht with ht | ht
    · obtain ⟨i, e, hi⟩ := h.tdin t ht
      exact ⟨i, e, up i hi⟩
    · exact ⟨j, List.mem_singleton.1 ht, hself⟩
  · rcases dn i hi with e | hi
    · subst e
      exact .step (h.path a h.cur) (List.mem_of_getElem? hj)
    · exact h.path i hi
  · rcases dn i hi with e | hi
    · subst e; exact .inl (by simp)
    · rcases h.closed i hi with h1 | h1 | h1
      · exact .inl (by simp [h1])
      · exact .inr (.inl h1)
      · exact .inr (.inr fun x hx => up x (h1 x hx))
  · rw [List.take_add_one, hj] at hi
    rcases List.mem_append.1 hi with hi | hi
    · exact up i (h.done i hi)
    · have : i = j := Int.ofNat_inj.1 (by simpa using hi)
      subst this; exact hself
theorem count_mark {ms : List Bool} {j : Nat} (hm : ms[j]? = some false) : (ms.set j true).count false + 1 = ms.count false := by
  obtain ⟨hj, he⟩ := List.getElem?_eq_some_iff.1 hm
  have h1 : 0 < ms.count false := List.count_pos_iff.2 (he ▸ List.getElem_mem hj)
  rw [List.count_set hj, he]
  simp
  omega
theorem RI.start {code : List Ins} (h : 0 < code.length) : RI code ((List.replicate code.length false).set 0 true) [0] := by
  refine ⟨by simp, fun t ht => ⟨0, by simpa using ht, by simp [h]⟩, fun i hi => ?_, fun i hi => ?_, fun _ => by simp [h]⟩
  · rw [List.getElem?_set] at hi
    split at hi
    · rename_i e; subst e; exact .zero h
    · rw [List.getElem?_replicate] at hi
      split at hi <;> cases hi
  · rw [List.getElem?_set] at hi
    split at hi
    · rename_i e; subst e; exact .inl (by simp)
    · rw [List.getElem?_replicate] at hi
      split at hi <;> cases hi
theorem start_count {n : Nat} (h : 0 < n) : [(0 : Int)].length + ((List.replicate n false).set 0 true).count false ≤ n := by
  have := count_mark (ms := List.replicate n false) (j := 0) (by simp [h])
  rw [List.count_replicate_self] at this
  simp only [List.length_cons, List.length_nil]
  omega
theorem reachL_nil {code : List Ins} (h : code.length = 0) : reachL code = [] := List.eq_nil_of_length_eq_zero (by rw [reachL_len]; exact h)
end Go.Proofs.YtkibfcnieamdoaaGreatDoor
