/-
  RegistryNil: whatever the input, the law returns true; the input reads as it did. No condition.
-/
import Derived.Test.YtnjgkcafmlmpcaaArg
import Derived.Test.YtnjgkcafmlmpcaaPost
import Derived.Test.YtnjgkcafmlmpcaaLaw7
import Derived.Test.YtnjgkcafmlmpcaaRows
import Derived.WalkKit
import Derived.ProofKit
import Derived.OpenShut
set_option linter.unusedVariables false
set_option linter.unusedSimpArgs false
set_option maxRecDepth 100000
namespace Go.Proofs.Ytnjgkcafmlmpcaa.closeRegistryNil
open Go.Abs Go.ChangeShapes Go.WideShapes Go.ChangeAt Go.RowKit

theorem law_registryNil (xs : List V) (has : ArgsT Try.prog [45] xs) : Pure Try.prog 9 xs (.bool true) := by
  obtain ⟨v0, r0, rfl, h0, s0⟩ := has.cons
  obtain ⟨n0, rfl, w0⟩ := h0.struct (by kernel_rfl)
  obtain rfl := s0.nil
  exact registryNil_args n0 w0

theorem own : ownKnob Try.prog.godebug = none := by kernel_rfl

theorem gl (W : World) : GlR (envD W) := fun e he => by cases he

theorem lifted (os : Os) (started : os.Started) (H : Type) (enc : TypeId × Value → H) :
    ReturnsInHanded {} Try.checked os 9 .any (Rows.registryNilSpec.pre6 enc Try.prog Try.f9 Rows.registryNilRow.domain false) (Rows.registryNilSpec.post enc Try.prog Try.f9 false true false false) := by
  refine returnsInHanded_of_change (C := Try.checked) own started (by kernel_rfl) Try.func9
    (ChangeSpec.witness6 (enc := enc) (C := Try.checked) false ⟨#[], #[.agg #[.int .i64 0, .int .i64 0, .string ⟨#[]⟩, .int .i64 0, .int .i64 0, .int .i64 0, .string ⟨#[]⟩, .int .i64 0]], []⟩ 8 (by kernel_rfl) (by kernel_rfl) (by kernel_rfl) (by kernel_rfl)) ?_
  intro W base args ds gs before hval hW hcnd _
  have hpar : Try.f9.params.toList = [45] := by rw [Try.params9]
  refine law_contract (P := Try.prog) (fid := 9) (f := Try.f9) (s := Rows.registryNilSpec) (ts := [45, 3, 9, 29, 27]) (tb := 4) (by kernel_rfl) (by kernel_rfl) (slices_full_of _ (by kernel_rfl)) (by kernel_rfl)
    (by rw [hpar]; decide) (by rw [hpar]; intro t ht; exact Nat.lt_of_lt_of_le (show t < 46 by revert t; decide) (of_decide_eq_true (by kernel_rfl))) rfl ?_ (by kernel_rfl) (by kernel_rfl) ?_ gl hval hW
  · intro ds hl
    rw [hpar] at hl
    match ds, hl with
    | [d0], _ => rfl
  · intro xs has
    rw [hpar] at has
    exact law_registryNil xs has

theorem over : Rows.registryNilRow.holds Try.pinned (OpenSpec.ofChange Rows.registryNilSpec) :=
  OpenClaim.holds_of_wide 9 Try.f9 rfl rfl rfl rfl rfl rfl rfl ⟨rfl, rfl, rfl, rfl, rfl⟩ rfl rfl rfl rfl rfl (by kernel_rfl) Try.func9 (by kernel_rfl)
    (of_decide_eq_true (by kernel_rfl)) (by unfold Func.isWrapper; first | (rw [if_pos (by decide +kernel)]; kernel_rfl) | (rw [if_neg (by decide +kernel)]; exact ⟨rfl, rfl⟩))
    (fun os started H enc _ => lifted os started H enc)

end Go.Proofs.Ytnjgkcafmlmpcaa.closeRegistryNil
namespace Go.Proofs.Ytnjgkcafmlmpcaa

/-- The statement. -/
theorem registryNil_holds : Rows.RegistryNilSaid := closeRegistryNil.over

end Go.Proofs.Ytnjgkcafmlmpcaa
