/-
  RegistryRoots: whatever the input, the law returns true; the input reads as it did. No condition.
-/
import Derived.Test.YtlmmmplgogbjgaaArg
import Derived.Test.YtlmmmplgogbjgaaPost
import Derived.Test.YtlmmmplgogbjgaaLawP
import Derived.Test.YtlmmmplgogbjgaaRows
import Derived.WalkKit
import Derived.ProofKit
import Derived.OpenShut
import Derived.SizedLaws
set_option linter.unusedVariables false
set_option linter.unusedSimpArgs false
set_option maxRecDepth 100000
namespace Go.Proofs.Ytlmmmplgogbjgaa.closeRegistryRoots
open Go.Abs Go.ChangeShapes Go.WideShapes Go.ChangeAt Go.RowKit

theorem law_registryRoots (xs : List V) (has : ArgsT Try.prog [22] xs) : Pure Try.prog 4 xs (.bool true) := by
  obtain ⟨v0, r0, rfl, h0, s0⟩ := has.cons
  obtain ⟨n0, rfl, l0, w0⟩ := h0.slice Try.underlying22
  obtain rfl := s0.nil
  exact registryRoots_args n0 l0 w0

theorem own : ownKnob Try.prog.godebug = none := by kernel_rfl

theorem gl (W : World) : GlR (envD W) := fun e he => by cases he

theorem lifted (os : Os) (started : os.Started) (H : Type) (enc : TypeId × Value → H) :
    ReturnsInHanded {} Try.checked os 4 .any (Rows.registryRootsSpec.pre6 enc Try.prog Try.f4 Rows.registryRootsRow.domain false) (Rows.registryRootsSpec.post enc Try.prog Try.f4 false true false false) := by
  refine returnsInHanded_of_change_sized (C := Try.checked) own started (by kernel_rfl) Try.func4
    (ChangeSpec.witness6 (enc := enc) (C := Try.checked) false ⟨#[], #[.slice none 0 0], []⟩ 8 (by kernel_rfl) (by kernel_rfl) (by kernel_rfl) (by kernel_rfl)) ?_
  intro W base args ds gs before hval hW hcnd hsz _
  have hpar : Try.f4.params.toList = [22] := by rw [Try.params4]
  refine law_contract (P := Try.prog) (fid := 4) (f := Try.f4) (s := Rows.registryRootsSpec) (ts := [22, 35, 3, 9, 33, 31, 4]) (tb := 4) (by kernel_rfl) (by kernel_rfl) (slices_full_of _ (by kernel_rfl)) (by kernel_rfl)
    (by rw [hpar]; decide) (by rw [hpar]; intro t ht; exact Nat.lt_of_lt_of_le (show t < 36 by revert t; decide) (of_decide_eq_true (by kernel_rfl))) rfl ?_ (by kernel_rfl) (by kernel_rfl) ?_ (gl W) hval hW hsz
  · intro ds hl
    rw [hpar] at hl
    match ds, hl with
    | [d0], _ => rfl
  · intro xs has
    rw [hpar] at has
    exact law_registryRoots xs has

theorem over : Rows.registryRootsRow.holds Try.pinned (OpenSpec.ofChange Rows.registryRootsSpec) :=
  OpenClaim.holds_of_wide 4 Try.f4 rfl rfl rfl rfl rfl rfl rfl ⟨rfl, rfl, rfl, rfl, rfl⟩ rfl rfl rfl rfl rfl (by kernel_rfl) Try.func4 (by kernel_rfl)
    (of_decide_eq_true (by kernel_rfl)) (by unfold Func.isWrapper; first | (rw [if_pos (by decide +kernel)]; kernel_rfl) | (rw [if_neg (by decide +kernel)]; exact ⟨rfl, rfl⟩))
    (fun os started H enc _ => lifted os started H enc)

end Go.Proofs.Ytlmmmplgogbjgaa.closeRegistryRoots
namespace Go.Proofs.Ytlmmmplgogbjgaa

/-- The statement. -/
theorem registryRoots_holds : Rows.RegistryRootsSaid := closeRegistryRoots.over

end Go.Proofs.Ytlmmmplgogbjgaa
