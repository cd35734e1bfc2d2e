/-
  What is accepted: those within it, and without names and lines. No condition.
-/
import Derived.Test.YtkcehagdbecolaaGreatDoorFnMb
import Derived.Test.YtkcehagdbecolaaGreatDoorFnS
set_option linter.unusedVariables false
set_option linter.unusedSimpArgs false
set_option maxRecDepth 100000
set_option maxHeartbeats 0
namespace Go.Proofs.YtkcehagdbecolaaGreatDoor
open Go.Abs

theorem firstNZ_iff : ∀ {l : List Int}, firstNZ l = 0 ↔ ∀ x ∈ l, x = 0
  | [] => by simp [firstNZ]
  | x :: r => by
    rw [firstNZ]
    split
    · rename_i h; rw [firstNZ_iff, List.forall_mem_cons]; simp [h]
    · rename_i h; rw [List.forall_mem_cons]; simp [h]
theorem chkE_iff (p : Fn) : chkE p = 0 ↔ p.depth ≤ 64 ∧ ∀ q ∈ p.each, sglE q = 0 := by
  unfold chkE chkAll
  split
  · rename_i h; constructor
    · intro h; omega
    · intro h; omega
  · rename_i h
    rw [firstNZ_iff]
    simp only [List.mem_map, forall_exists_index, and_imp, forall_apply_eq_imp_iff₂]
    exact ⟨fun h2 => ⟨by omega, h2⟩, fun h2 => h2.2⟩
theorem Fn.depth_within (p : Fn) : ∀ q ∈ p.each, q.depth ≤ p.depth := by
  induction p using Fn.ind with
  | h p ih =>
    intro q hq
    rw [Fn.each_eq] at hq
    rcases List.mem_cons.1 hq with rfl | hq
    · exact Nat.le_refl _
    · obtain ⟨r, hr, hq⟩ := Fn.mem_eachs.1 hq
      have h1 := ih r hr q hq
      have h2 := Fn.depths_mem hr
      rw [Fn.depth_eq p]
      omega
theorem chkE_within {p q : Fn} (h : chkE p = 0) (hq : q ∈ p.each) : chkE q = 0 := by
  rw [chkE_iff] at h ⊢
  have := Fn.depth_within p q hq
  exact ⟨by omega, fun x hx => h.2 x (Fn.each_trans p q hq x hx)⟩

theorem Fn.eachs_strip : ∀ (l : List Fn), (∀ q ∈ l, q.strip.each = q.each.map Fn.strip) → Fn.eachs (l.map Fn.strip) = (Fn.eachs l).map Fn.strip
  | [], _ => rfl
  | p :: r, h => by
    rw [List.map_cons, Fn.eachs, Fn.eachs, List.map_append, h p List.mem_cons_self, Fn.eachs_strip r fun q hq => h q (List.mem_cons_of_mem _ hq)]
theorem Fn.strip_each (p : Fn) : p.strip.each = p.each.map Fn.strip := by
  induction p using Fn.ind with
  | h p ih =>
    rw [Fn.each_eq p, Fn.each_eq p.strip, List.map_cons]
    congr 1
    rw [Fn.strip_eq p]
    exact Fn.eachs_strip p.protos ih
theorem Fn.Le.strip {p : Fn} (h : p.Le) : p.strip.Le := by
  rw [Fn.strip_eq]
  exact ⟨h.code, Nat.zero_le _, h.consts, by simpa using h.protos, by simpa using h.ups, Nat.zero_le _⟩
theorem Fn.bd.strip {p : Fn} (h : p.bd) : p.strip.bd := fun q hq => by
  rw [Fn.strip_each] at hq
  obtain ⟨x, hx, rfl⟩ := List.mem_map.1 hq
  exact (h x hx).strip
theorem Fn.depths_map : ∀ (l : List Fn), (∀ q ∈ l, q.strip.depth = q.depth) → Fn.depths (l.map Fn.strip) = Fn.depths l
  | [], _ => rfl
  | p :: r, h => by
    rw [List.map_cons, Fn.depths, Fn.depths, h p List.mem_cons_self, Fn.depths_map r fun q hq => h q (List.mem_cons_of_mem _ hq)]
theorem Fn.depth_strip (p : Fn) : p.strip.depth = p.depth := by
  induction p using Fn.ind with
  | h p ih =>
    rw [Fn.depth_eq p, Fn.depth_eq p.strip]
    congr 1
    rw [Fn.strip_eq p]
    exact Fn.depths_map p.protos ih

theorem limE_strip {p : Fn} (h : limE p = 0) : limE p.strip = 0 := by
  rw [Fn.strip_eq]
  unfold limE at h ⊢
  split at h
  · rename_i hc
    obtain ⟨c1, c2, c3, c4, c5, c6, c7, c8, c9⟩ := hc
    refine if_pos ⟨c1, c2, by simpa using c3, by simpa using c4, by simp, c6, by simp, ?_, by simp⟩
    rw [List.any_eq_false]
    intro u hu
    obtain ⟨w, hw, rfl⟩ := List.mem_map.1 hu
    simp [Upv.bare]
  · omega
theorem formE_strip {p : Fn} (h : formE p = 0) : formE p.strip = 0 := by
  rw [Fn.strip_eq]
  unfold formE at h ⊢
  split at h
  · rename_i hc
    obtain ⟨c1, c2, c3, c4, c5, c6, c7, c8, c9, c10⟩ := hc
    refine if_pos ⟨c1, c2, c3, by simp, c5, by simp, by simp, ?_, c9, by simp⟩
    rw [List.any_eq_false] at c8 ⊢
    intro u hu
    obtain ⟨w, hw, rfl⟩ := List.mem_map.1 hu
    exact c8 w hw
  · omega
theorem instE_strip (p : Fn) (i : Ins) : instE p.strip i = instE p i := by
  have : refersB p.strip i = refersB p i := by rw [Fn.strip_eq]; simp [refersB]
  unfold instE
  rw [this, Fn.strip_eq]
theorem badQ_strip (p q : Fn) : badQ p.strip q.strip = badQ p q := by
  rw [Fn.strip_eq p, Fn.strip_eq q]
  simp [badQ, List.any_map]
  congr 1
theorem sglE_strip {p : Fn} (h : sglE p = 0) : sglE p.strip = 0 := by
  unfold sglE at h
  split at h
  · omega
  rename_i h1
  split at h
  · omega
  rename_i h2
  split at h
  · omega
  rename_i h3
  split at h
  · omega
  rename_i h4
  have h1 := limE_strip (p := p) (by simpa using h1)
  have h2 := formE_strip (p := p) (by simpa using h2)
  have h3 : firstNZ (p.strip.code.map (instE p.strip)) = 0 := by
    rw [show instE p.strip = instE p from funext (instE_strip p), show p.strip.code = p.code by rw [Fn.strip_eq]]
    simpa using h3
  unfold sglE
  rw [if_neg (by simpa using h1), if_neg (by simpa using h2), if_neg (by simpa using h3)]
  refine if_neg ?_
  rw [show p.strip.protos = p.protos.map Fn.strip by rw [Fn.strip_eq], List.any_map, show badQ p.strip ∘ Fn.strip = badQ p from funext (badQ_strip p)]
  exact h4
theorem chkE_strip {p : Fn} (h : chkE p = 0) : chkE p.strip = 0 := by
  rw [chkE_iff] at h ⊢
  rw [Fn.depth_strip, Fn.strip_each]
  refine ⟨h.1, fun q hq => ?_⟩
  obtain ⟨x, hx, rfl⟩ := List.mem_map.1 hq
  exact sglE_strip (h.2 x hx)
end Go.Proofs.YtkcehagdbecolaaGreatDoor
