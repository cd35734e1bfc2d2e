/-
  RegistryFull: whatever the input, the law returns true; the input reads as it did. No condition.
-/
import Derived.Test.YtnjgkcafmlmpcaaArg
import Derived.Test.YtnjgkcafmlmpcaaPost
import Derived.Test.YtnjgkcafmlmpcaaLaw4
import Derived.Test.YtnjgkcafmlmpcaaRows
import Derived.WalkKit
import Derived.ProofKit
import Derived.OpenShut
set_option linter.unusedVariables false
set_option linter.unusedSimpArgs false
set_option maxRecDepth 100000
namespace Go.Proofs.Ytnjgkcafmlmpcaa.closeRegistryFull
open Go.Abs Go.ChangeShapes Go.WideShapes Go.ChangeAt Go.RowKit

theorem law_registryFull (xs : List V) (has : ArgsT Try.prog [29, 55] xs) : Pure Try.prog 6 xs (.bool true) := by
  obtain ⟨v0, r0, rfl, h0, s0⟩ := has.cons
  obtain ⟨n0, rfl, w0⟩ := h0.struct (by kernel_rfl)
  obtain ⟨v1, r1, rfl, h1, s1⟩ := s0.cons
  obtain ⟨n1, rfl, w1⟩ := h1.int Try.underlying55
  obtain rfl := s1.nil
  exact registryFull_args n0 w0 n1 w1

theorem own : ownKnob Try.prog.godebug = none := by kernel_rfl

theorem gl (W : World) : GlR (envD W) := fun e he => by cases he

theorem lifted (os : Os) (started : os.Started) (H : Type) (enc : TypeId × Value → H) :
    ReturnsInHanded {} Try.checked os 6 .any (Rows.registryFullSpec.pre6 enc Try.prog Try.f6 Rows.registryFullRow.domain false) (Rows.registryFullSpec.post enc Try.prog Try.f6 false true false false) := by
  refine returnsInHanded_of_change (C := Try.checked) own started (by kernel_rfl) Try.func6
    (ChangeSpec.witness6 (enc := enc) (C := Try.checked) false ⟨#[], #[.agg #[.int .i64 0, .int .i64 0, .int .i64 0, .string ⟨#[]⟩, .int .i64 0], .int .u16 0], []⟩ 8 (by kernel_rfl) (by kernel_rfl) (by kernel_rfl) (by kernel_rfl)) ?_
  intro W base args ds gs before hval hW hcnd _
  have hpar : Try.f6.params.toList = [29, 55] := by rw [Try.params6]
  refine law_contract (P := Try.prog) (fid := 6) (f := Try.f6) (s := Rows.registryFullSpec) (ts := [29, 3, 27, 9, 55]) (tb := 4) (by kernel_rfl) (by kernel_rfl) (slices_full_of _ (by kernel_rfl)) (by kernel_rfl)
    (by rw [hpar]; decide) (by rw [hpar]; intro t ht; exact Nat.lt_of_lt_of_le (show t < 56 by revert t; decide) (of_decide_eq_true (by kernel_rfl))) rfl ?_ (by kernel_rfl) (by kernel_rfl) ?_ gl hval hW
  · intro ds hl
    rw [hpar] at hl
    match ds, hl with
    | [d0, d1], _ => rfl
  · intro xs has
    rw [hpar] at has
    exact law_registryFull xs has

theorem over : Rows.registryFullRow.holds Try.pinned (OpenSpec.ofChange Rows.registryFullSpec) :=
  OpenClaim.holds_of_wide 6 Try.f6 rfl rfl rfl rfl rfl rfl rfl ⟨rfl, rfl, rfl, rfl, rfl⟩ rfl rfl rfl rfl rfl (by kernel_rfl) Try.func6 (by kernel_rfl)
    (of_decide_eq_true (by kernel_rfl)) (by unfold Func.isWrapper; first | (rw [if_pos (by decide +kernel)]; kernel_rfl) | (rw [if_neg (by decide +kernel)]; exact ⟨rfl, rfl⟩))
    (fun os started H enc _ => lifted os started H enc)

end Go.Proofs.Ytnjgkcafmlmpcaa.closeRegistryFull
namespace Go.Proofs.Ytnjgkcafmlmpcaa

/-- The statement. -/
theorem registryFull_holds : Rows.RegistryFullSaid := closeRegistryFull.over

end Go.Proofs.Ytnjgkcafmlmpcaa
