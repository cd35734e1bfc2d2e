/-
  Functions that are more than is tried. No condition.
-/
import Derived.Test.YtmpkdkadnhindaaDoorFnR
set_option linter.unusedVariables false
set_option linter.unusedSimpArgs false
set_option maxRecDepth 100000
set_option maxHeartbeats 0
namespace Go.Proofs.YtmpkdkadnhindaaDoor
open Go.Abs
attribute [local irreducible] CallS Run RndS

def parts (q : Fn) : Nat := q.code.length + q.lines.length + q.consts.length + q.ups.length + q.vars.length
/-- At most 40 functions, 400 parts of each. -/
structure SmallP (p : Fn) : Prop where
  count : p.each.length ≤ 40
  parts : ∀ q ∈ p.each, parts q ≤ 400 ∧ q.protos.length ≤ 40
theorem SmallP.bd {p : Fn} (h : SmallP p) : p.bd := fun q hq => by
  have h1 := (h.parts q hq).1
  have h2 := (h.parts q hq).2
  unfold Go.Proofs.YtmpkdkadnhindaaDoor.parts at h1
  exact ⟨by omega, by omega, by omega, by omega, by omega, by omega⟩
noncomputable def largeB (p : Fn) : Bool := by
  classical exact !decide (SmallP p)
theorem largeB_yes {p : Fn} (h : ¬ SmallP p) : largeB p = true := by simp [largeB, h]
theorem largeB_no {p : Fn} (h : SmallP p) : largeB p = false := by simp [largeB, h]
theorem small_of {p : Fn} (h : largeB p = false) : SmallP p := by simpa [largeB] using h

end Go.Proofs.YtmpkdkadnhindaaDoor
