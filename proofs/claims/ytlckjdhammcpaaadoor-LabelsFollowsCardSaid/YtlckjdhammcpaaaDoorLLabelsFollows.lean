/-
  LabelsFollows: whatever the input, the law returns true; the input reads as it did. The listed package-level variables hold what the program's text lays in them (a tied card). No other condition.
-/
import Derived.Test.YtlckjdhammcpaaaDoorArg
import Derived.Test.YtlckjdhammcpaaaDoorPost
import Derived.Test.YtlckjdhammcpaaaDoorLabL6
import Derived.Test.YtlckjdhammcpaaaDoorTab
import Derived.Test.YtlckjdhammcpaaaDoorRows
import Derived.Test.YtlckjdhammcpaaaDoorTie
import Derived.Test.YtlckjdhammcpaaaDoorCards
import Derived.WalkKit
import Derived.ProofKit
import Derived.OpenShut
import Derived.LaidMore
import Derived.LaidOnce
import Derived.SevenTiedAt
set_option linter.unusedVariables false
set_option linter.unusedSimpArgs false
set_option maxRecDepth 100000
namespace Go.Proofs.YtlckjdhammcpaaaDoor.closeLabelsFollows
open Go Go.Abs Go.ChangeShapes Go.WideShapes Go.ChangeAt Go.RowKit

theorem law_labelsFollows (xs : List V) (has : ArgsT Tryd.prog [22] xs) : Pure Tryd.prog 9 xs (.bool true) := by
  obtain ⟨v0, r0, rfl, h0, s0⟩ := has.cons
  obtain ⟨n0, rfl, l0, w0⟩ := h0.slice Tryd.underlying22
  obtain rfl := s0.nil
  exact labelsFollows_args n0 l0 w0

theorem own : ownKnob Tryd.prog.godebug = none := by kernel_rfl

theorem door_met (os : Os) (args : Array Value) : laidMetH Tryd.prog Rows.labelsFollowsRow.laid ((World.doorLaid Tryd.prog 33 os).forCall (fun _ _ => 0) ⟨#[], args, []⟩).memory :=
  laidMetH_of_parts3 (fuel := 8) (laidMet_of_run' 8 (by kernel_rfl) (by kernel_rfl)) (by kernel_rfl) (by kernel_rfl)

theorem lifted (os : Os) (started : os.Started) (H : Type) (enc : TypeId × Value → H) :
    ReturnsInHanded {} Tryd.checked os 9 .any (fun w args => (Rows.labelsFollowsSpec.pre enc Tryd.prog Tryd.f9 [] false w args ∧ laidMetH Tryd.prog Rows.labelsFollowsRow.laid w) ∧ sizedMet enc Tryd.prog Tryd.f9 (OpenSpec.ofChange Rows.labelsFollowsSpec) false w args)
      (Rows.labelsFollowsSpec.post enc Tryd.prog Tryd.f9 false true false false) := by
  refine returnsInHanded_of_change_and (C := Tryd.checked) (X := fun w _ => laidMetH Tryd.prog Rows.labelsFollowsRow.laid w) (fun _ _ _ hh h => h.of_heap hh) own started (by kernel_rfl) Tryd.func9
    (ChangeSpec.witness_shaped (enc := enc) (C := Tryd.checked) (os := os) (X := fun w _ => laidMetH Tryd.prog Rows.labelsFollowsRow.laid w) false (World.doorLaid Tryd.prog 33 os) #[.slice none 0 0] 8 rfl (World.shaped_of_RefB (by kernel_rfl) (by kernel_rfl)) (by kernel_rfl) (by kernel_rfl) (by kernel_rfl) (door_met os _)) ?_
  intro W base args ds gs before hval hW _ _ hL _
  have hpar : Tryd.f9.params.toList = [22] := by rw [Tryd.params9]
  refine law_contract (P := Tryd.prog) (fid := 9) (f := Tryd.f9) (s := Rows.labelsFollowsSpec) (ts := [22, 34, 3, 32]) (tb := 4) (by kernel_rfl) (by kernel_rfl) (slices_full_of _ (by kernel_rfl)) (by kernel_rfl)
    (by rw [hpar]; decide) (by rw [hpar]; intro t ht; exact Nat.lt_of_lt_of_le (show t < 35 by revert t; decide) (of_decide_eq_true (by kernel_rfl))) rfl ?_ (by kernel_rfl) (by kernel_rfl) ?_ (glob_laid hL) hval hW
  · intro ds hl
    rw [hpar] at hl
    match ds, hl with
    | [d0], _ => rfl
  · intro xs has
    rw [hpar] at has
    exact law_labelsFollows xs has

theorem over : Rows.labelsFollowsRow.holds Tryd.pinned (OpenSpec.ofChange Rows.labelsFollowsSpec) :=
  OpenClaim.holds_of_wide 9 Tryd.f9 rfl rfl rfl rfl rfl rfl rfl ⟨rfl, rfl, rfl, rfl, rfl⟩ rfl rfl rfl rfl rfl (by kernel_rfl) Tryd.func9 (by kernel_rfl)
    (of_decide_eq_true (by kernel_rfl)) (by unfold Func.isWrapper; first | (rw [if_pos (by decide +kernel)]; kernel_rfl) | (rw [if_neg (by decide +kernel)]; exact ⟨rfl, rfl⟩))
    (fun os started H enc _ => lifted os started H enc)

end Go.Proofs.YtlckjdhammcpaaaDoor.closeLabelsFollows
namespace Go.Proofs.YtlckjdhammcpaaaDoor
open Go

/-- The statement. -/
theorem labelsFollows_holds : Rows.LabelsFollowsCardSaid :=
  Claim7.holds_tied_plain_at .later [] [.listed, .data] true (true, "11d0af36cb39c95a880f3a9398513f07e3bb63a0f8c8a1bc215ac9504c4b1dd7") false
    closeLabelsFollows.over (fun _ h => by cases h) (by kernel_rfl) (fun _ h => by cases h) labelsFollows_row_tie rfl ⟨rfl, rfl⟩ (by kernel_rfl) rfl
    (fun f fn hf hfn => by
      obtain rfl : f = 9 := Option.some.inj ((show Tryd.prog.funcNamed "scripting/scriptinglaw38.LabelsFollows" = some 9 by kernel_rfl).symm.trans hf) |>.symm
      obtain rfl : fn = Tryd.f9 := (Option.some.inj (Tryd.func9.symm.trans hfn)).symm
      exact ⟨by kernel_rfl, fun j t ht => by
        rw [Tryd.params9] at ht
        have hm : t ∈ [22] := by simpa using Array.mem_of_getElem? ht
        have hall : ([22].all fun u => !Tryd.prog.wantsStandIn u) = true := by kernel_rfl
        exact (show Tryd.prog.wantsStandIn t = false by simpa using List.all_eq_true.1 hall t hm)⟩)
    (by kernel_rfl)

end Go.Proofs.YtlckjdhammcpaaaDoor
