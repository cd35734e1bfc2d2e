/-
  Walks by successors. No condition.
-/
import Derived.Test.YtdnpnbenahpllaaDoorSolT
import Derived.Test.YtdnpnbenahpllaaDoorFlowL
set_option linter.unusedVariables false
set_option linter.unusedSimpArgs false
set_option maxRecDepth 100000
namespace Go.Proofs.YtdnpnbenahpllaaDoor
open Go.Abs

/-- A successor that does not lie behind is the target of a loop. -/
theorem back_of {code : List Ins} {k : Nat} {x : Int} (h : x ∈ nextL code k) (hle : x ≤ k) : x ∈ normZ (backL code) := by
  rw [mem_normZ_iff]
  unfold nextL at h
  split at h
  · cases h
  rw [Int.toNat_natCast] at h
  split at h
  · rename_i i hi
    rw [mem_normZ_iff] at h
    rcases List.mem_append.1 h with h | h
    · unfold tgtL at h
      split at h
      · rename_i hc
        have hx := List.mem_singleton.1 h
        unfold backL
        refine List.mem_filterMap.2 ⟨(i, k), List.mem_zipIdx_iff_getElem?.2 hi, ?_⟩
        rw [if_pos ⟨hc.1, by simp only; omega⟩, hx]
      · cases h
    · unfold fallL at h
      split at h
      · have := List.mem_singleton.1 h; omega
      · cases h
  · cases h
/-- What is live behind a step was live before it, or is written by it. -/
theorem live_step {p : Pro} {a r : Nat} {x : Int} (hr : r < regN p.regs) (hx : x ∈ nextL p.code a) (hl : liveP p x.toNat r = true) (hw : wrtB p a x r = false) : liveP p a r = true := by
  rw [live_eq hr, Bool.or_eq_true]
  right
  exact List.any_eq_true.2 ⟨x, hx, by rw [hl, hw]; rfl⟩
theorem live_use {p : Pro} {a r : Nat} {i : Ins} (hi : p.code[a]? = some i) (hr : r < regN p.regs) (h : (((reads i).1.any fun y => decide (y = (r : Int))) || decide (0 ≤ (reads i).2 ∧ (reads i).2 ≤ (r : Int))) = true) : liveP p a r = true := by
  rw [live_eq hr, useP_at hi hr, Bool.or_eq_true]
  left
  rw [← Bool.or_assoc, h]; rfl
end Go.Proofs.YtdnpnbenahpllaaDoor
