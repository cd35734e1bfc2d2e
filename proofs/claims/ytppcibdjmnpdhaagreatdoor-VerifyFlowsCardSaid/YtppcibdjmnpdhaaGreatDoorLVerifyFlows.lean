/-
  VerifyFlows: whatever the input, the law returns true; the input reads as it did. The listed package-level variables hold what the program's text lays in them (a tied card). No other condition.
-/
import Derived.Test.YtppcibdjmnpdhaaGreatDoorArg
import Derived.Test.YtppcibdjmnpdhaaGreatDoorPost
import Derived.Test.YtppcibdjmnpdhaaGreatDoorVerX
import Derived.Test.YtppcibdjmnpdhaaGreatDoorTab
import Derived.Test.YtppcibdjmnpdhaaGreatDoorRows
import Derived.Test.YtppcibdjmnpdhaaGreatDoorTie
import Derived.Test.YtppcibdjmnpdhaaGreatDoorCards
import Derived.WalkKit
import Derived.ProofKit
import Derived.OpenShut
import Derived.LaidMore
import Derived.LaidOnce
import Derived.SevenTiedAt
set_option linter.unusedVariables false
set_option linter.unusedSimpArgs false
set_option maxRecDepth 100000
namespace Go.Proofs.YtppcibdjmnpdhaaGreatDoor.closeVerifyFlows
open Go Go.Abs Go.ChangeShapes Go.WideShapes Go.ChangeAt Go.RowKit
theorem law_verifyFlows (xs : List V) (has : ArgsT Tryz.prog [29] xs) : Pure Tryz.prog 4 xs (.bool true) := by
  obtain ⟨v0, r0, rfl, h0, s0⟩ := has.cons
  obtain ⟨n0, rfl, w0⟩ := h0.struct (by kernel_rfl)
  obtain rfl := s0.nil
  exact verifyFlows_args n0 w0
theorem own : ownKnob Tryz.prog.godebug = none := by kernel_rfl
theorem door_met (os : Os) (args : Array Value) : laidMetH Tryz.prog Rows.verifyFlowsRow.laid ((World.doorLaid Tryz.prog 33 os).forCall (fun _ _ => 0) ⟨#[], args, []⟩).memory :=
  laidMetH_of_parts3 (fuel := 8) (laidMet_of_run' 8 (by kernel_rfl) (by kernel_rfl)) (by kernel_rfl) (by kernel_rfl)
theorem lifted (os : Os) (started : os.Started) (H : Type) (enc : TypeId × Value → H) :
    ReturnsInHanded {} Tryz.checked os 4 .any (fun w args => (Rows.verifyFlowsSpec.pre enc Tryz.prog Tryz.f4 [] false w args ∧ laidMetH Tryz.prog Rows.verifyFlowsRow.laid w) ∧ sizedMet enc Tryz.prog Tryz.f4 (OpenSpec.ofChange Rows.verifyFlowsSpec) false w args)
      (Rows.verifyFlowsSpec.post enc Tryz.prog Tryz.f4 false true false false) := by
  refine returnsInHanded_of_change_and (C := Tryz.checked) (X := fun w _ => laidMetH Tryz.prog Rows.verifyFlowsRow.laid w) (fun _ _ _ hh h => h.of_heap hh) own started (by kernel_rfl) Tryz.func4
    (ChangeSpec.witness_shaped (enc := enc) (C := Tryz.checked) (os := os) (X := fun w _ => laidMetH Tryz.prog Rows.verifyFlowsRow.laid w) false (World.doorLaid Tryz.prog 33 os) #[.agg #[.string ⟨#[]⟩, .int .i64 0, .int .i64 0, .bool false, .int .i64 0, .slice none 0 0, .slice none 0 0, .slice none 0 0, .slice none 0 0, .slice none 0 0, .slice none 0 0]] 8 rfl (World.shaped_of_RefB (by kernel_rfl) (by kernel_rfl)) (by kernel_rfl) (by kernel_rfl) (by kernel_rfl) (door_met os _)) ?_
  intro W base args ds gs before hval hW _ hsz hL _
  have hpar : Tryz.f4.params.toList = [29] := by rw [Tryz.params4]
  refine law_contract (P := Tryz.prog) (fid := 4) (f := Tryz.f4) (s := Rows.verifyFlowsSpec) (ts := [29, 9, 3, 4, 22, 23, 24, 25, 26, 27, 46, 91, 67, 86, 89]) (tb := 4) (by kernel_rfl) (by kernel_rfl) (slices_full_of _ (by kernel_rfl)) (by kernel_rfl)
    (by rw [hpar]; decide) (by rw [hpar]; intro t ht; exact Nat.lt_of_lt_of_le (show t < 92 by revert t; decide) (of_decide_eq_true (by kernel_rfl))) rfl ?_ (by kernel_rfl) (by kernel_rfl) ?_ (glob_laid hL) hval hW hsz
  · intro ds hl
    rw [hpar] at hl
    match ds, hl with
    | [d0], _ => rfl
  · intro xs has
    rw [hpar] at has
    exact law_verifyFlows xs has
theorem over : Rows.verifyFlowsRow.holds Tryz.pinned (OpenSpec.ofChange Rows.verifyFlowsSpec) :=
  OpenClaim.holds_of_wide 4 Tryz.f4 rfl rfl rfl rfl rfl rfl rfl ⟨rfl, rfl, rfl, rfl, rfl⟩ rfl rfl rfl rfl rfl (by kernel_rfl) Tryz.func4 (by kernel_rfl)
    (of_decide_eq_true (by kernel_rfl)) (by unfold Func.isWrapper; first | (rw [if_pos (by decide +kernel)]; kernel_rfl) | (rw [if_neg (by decide +kernel)]; exact ⟨rfl, rfl⟩))
    (fun os started H enc _ => lifted os started H enc)
end Go.Proofs.YtppcibdjmnpdhaaGreatDoor.closeVerifyFlows
namespace Go.Proofs.YtppcibdjmnpdhaaGreatDoor
open Go
theorem verifyFlows_holds : Rows.VerifyFlowsCardSaid :=
  Claim7.holds_tied_plain_at .later [] [.listed, .data] true (true, "ea7a3bd1e76f68060470c4ac82f5b68ae36905617084da40efa2ecc12a235aa9") false
    closeVerifyFlows.over (fun _ h => by cases h) (by kernel_rfl) (fun _ h => by cases h) verifyFlows_row_tie rfl ⟨rfl, rfl⟩ (by kernel_rfl) rfl
    (fun f fn hf hfn => by
      obtain rfl : f = 4 := Option.some.inj ((show Tryz.prog.funcNamed "scripting/scriptinglaw36.VerifyFlows" = some 4 by kernel_rfl).symm.trans hf) |>.symm
      obtain rfl : fn = Tryz.f4 := (Option.some.inj (Tryz.func4.symm.trans hfn)).symm
      exact ⟨by kernel_rfl, fun j t ht => by
        rw [Tryz.params4] at ht
        have hm : t ∈ [29] := by simpa using Array.mem_of_getElem? ht
        have hall : ([29].all fun u => !Tryz.prog.wantsStandIn u) = true := by kernel_rfl
        exact (show Tryz.prog.wantsStandIn t = false by simpa using List.all_eq_true.1 hall t hm)⟩)
    (by kernel_rfl)
end Go.Proofs.YtppcibdjmnpdhaaGreatDoor
