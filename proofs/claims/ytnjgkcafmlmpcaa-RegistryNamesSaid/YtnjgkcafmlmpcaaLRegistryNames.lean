/-
  RegistryNames: whatever the input, the law returns true; the input reads as it did. No condition.
-/
import Derived.Test.YtnjgkcafmlmpcaaArg
import Derived.Test.YtnjgkcafmlmpcaaPost
import Derived.Test.YtnjgkcafmlmpcaaLaw3
import Derived.Test.YtnjgkcafmlmpcaaRows
import Derived.WalkKit
import Derived.ProofKit
import Derived.OpenShut
set_option linter.unusedVariables false
set_option linter.unusedSimpArgs false
set_option maxRecDepth 100000
namespace Go.Proofs.Ytnjgkcafmlmpcaa.closeRegistryNames
open Go.Abs Go.ChangeShapes Go.WideShapes Go.ChangeAt Go.RowKit

theorem law_registryNames (xs : List V) (has : ArgsT Try.prog [38, 9, 29, 9] xs) : Pure Try.prog 5 xs (.bool true) := by
  obtain ⟨v0, r0, rfl, h0, s0⟩ := has.cons
  obtain ⟨n0, rfl, l0, w0⟩ := h0.slice Try.underlying38
  obtain ⟨v1, r1, rfl, h1, s1⟩ := s0.cons
  obtain ⟨n1, rfl, w1⟩ := h1.str Try.underlying9
  obtain ⟨v2, r2, rfl, h2, s2⟩ := s1.cons
  obtain ⟨n2, rfl, w2⟩ := h2.struct (by kernel_rfl)
  obtain ⟨v3, r3, rfl, h3, s3⟩ := s2.cons
  obtain ⟨n3, rfl, w3⟩ := h3.str Try.underlying9
  obtain rfl := s3.nil
  exact registryNames_args n0 l0 w0 n1 w1 n2 w2 n3 w3

theorem own : ownKnob Try.prog.godebug = none := by kernel_rfl

theorem gl (W : World) : GlR (envD W) := fun e he => by cases he

theorem lifted (os : Os) (started : os.Started) (H : Type) (enc : TypeId × Value → H) :
    ReturnsInHanded {} Try.checked os 5 .any (Rows.registryNamesSpec.pre6 enc Try.prog Try.f5 Rows.registryNamesRow.domain false) (Rows.registryNamesSpec.post enc Try.prog Try.f5 false true false false) := by
  refine returnsInHanded_of_change (C := Try.checked) own started (by kernel_rfl) Try.func5
    (ChangeSpec.witness6 (enc := enc) (C := Try.checked) false ⟨#[], #[.slice none 0 0, .string ⟨#[]⟩, .agg #[.int .i64 0, .int .i64 0, .int .i64 0, .string ⟨#[]⟩, .int .i64 0], .string ⟨#[]⟩], []⟩ 8 (by kernel_rfl) (by kernel_rfl) (by kernel_rfl) (by kernel_rfl)) ?_
  intro W base args ds gs before hval hW hcnd _
  have hpar : Try.f5.params.toList = [38, 9, 29, 9] := by rw [Try.params5]
  refine law_contract (P := Try.prog) (fid := 5) (f := Try.f5) (s := Rows.registryNamesSpec) (ts := [38, 45, 3, 9, 29, 27]) (tb := 4) (by kernel_rfl) (by kernel_rfl) (slices_full_of _ (by kernel_rfl)) (by kernel_rfl)
    (by rw [hpar]; decide) (by rw [hpar]; intro t ht; exact Nat.lt_of_lt_of_le (show t < 46 by revert t; decide) (of_decide_eq_true (by kernel_rfl))) rfl ?_ (by kernel_rfl) (by kernel_rfl) ?_ gl hval hW
  · intro ds hl
    rw [hpar] at hl
    match ds, hl with
    | [d0, d1, d2, d3], _ => rfl
  · intro xs has
    rw [hpar] at has
    exact law_registryNames xs has

theorem over : Rows.registryNamesRow.holds Try.pinned (OpenSpec.ofChange Rows.registryNamesSpec) :=
  OpenClaim.holds_of_wide 5 Try.f5 rfl rfl rfl rfl rfl rfl rfl ⟨rfl, rfl, rfl, rfl, rfl⟩ rfl rfl rfl rfl rfl (by kernel_rfl) Try.func5 (by kernel_rfl)
    (of_decide_eq_true (by kernel_rfl)) (by unfold Func.isWrapper; first | (rw [if_pos (by decide +kernel)]; kernel_rfl) | (rw [if_neg (by decide +kernel)]; exact ⟨rfl, rfl⟩))
    (fun os started H enc _ => lifted os started H enc)

end Go.Proofs.Ytnjgkcafmlmpcaa.closeRegistryNames
namespace Go.Proofs.Ytnjgkcafmlmpcaa

/-- The statement. -/
theorem registryNames_holds : Rows.RegistryNamesSaid := closeRegistryNames.over

end Go.Proofs.Ytnjgkcafmlmpcaa
