/-
 DumpLoads: whatever the input, the law returns true; the input reads as it did. The listed package-level variables hold what the program's text lays in them (a tied card). No other condition.
-/
import Derived.Test.YtilggmmkmegefaaGreatDoorArg
import Derived.Test.YtilggmmkmegefaaGreatDoorPost
import Derived.Test.YtilggmmkmegefaaGreatDoorDmO
import Derived.Test.YtilggmmkmegefaaGreatDoorTab
import Derived.Test.YtilggmmkmegefaaGreatDoorRows
import Derived.Test.YtilggmmkmegefaaGreatDoorTie
import Derived.Test.YtilggmmkmegefaaGreatDoorCards
import Derived.WalkKit
import Derived.ProofKit
import Derived.OpenShut
import Derived.LaidMore
import Derived.LaidOnce
import Derived.SevenTiedAt
set_option linter.unusedVariables false
set_option linter.unusedSimpArgs false
set_option maxRecDepth 100000
namespace Go.Proofs.YtilggmmkmegefaaGreatDoor.closeDumpLoads
open Go Go.Abs Go.ChangeShapes Go.WideShapes Go.ChangeAt Go.RowKit

theorem B2p (xs : List V) (has : D0j Tryz.prog [22, 4] xs) : Pure Tryz.prog 3 xs (.bool true) := by
 obtain ⟨v0, r0, rfl, h0, s0⟩ := has.cons
 obtain ⟨n0, rfl, l0, w0⟩ := h0.ints Tryz.underlying22 Tryz.underlying5
 obtain ⟨v1, r1, rfl, h1, s1⟩ := s0.cons
 obtain ⟨n1, rfl⟩ := h1.bool Tryz.underlying4
 obtain rfl := s1.nil
 exact B0H n0 l0 w0 n1

theorem own : ownKnob Tryz.prog.godebug = none := by kernel_rfl

theorem C1s (os : Os) (args : Array Value) : laidMetH Tryz.prog Rows.dumpLoadsRow.laid ((World.doorLaid Tryz.prog 33 os).forCall (fun _ _ => 0) ⟨#[], args, []⟩).memory :=
 laidMetH_of_parts3 (fuel := 8) (laidMet_of_run' 8 (by kernel_rfl) (by kernel_rfl)) (by kernel_rfl) (by kernel_rfl)

theorem C6T (os : Os) (started : os.Started) (H : Type) (enc : TypeId × Value → H) :
  ReturnsInHanded {} Tryz.checked os 3 .any (fun w args => (Rows.dumpLoadsSpec.pre enc Tryz.prog Tryz.f3 [] false w args ∧ laidMetH Tryz.prog Rows.dumpLoadsRow.laid w) ∧ sizedMet enc Tryz.prog Tryz.f3 (OpenSpec.ofChange Rows.dumpLoadsSpec) false w args)
   (Rows.dumpLoadsSpec.post enc Tryz.prog Tryz.f3 false true false false) := by
 refine returnsInHanded_of_change_and (C := Tryz.checked) (X := fun w _ => laidMetH Tryz.prog Rows.dumpLoadsRow.laid w) (fun _ _ _ hh h => h.of_heap hh) own started (by kernel_rfl) Tryz.func3
  (ChangeSpec.witness_shaped (enc := enc) (C := Tryz.checked) (os := os) (X := fun w _ => laidMetH Tryz.prog Rows.dumpLoadsRow.laid w) false (World.doorLaid Tryz.prog 33 os) #[.slice none 0 0, .bool false] 8 rfl (World.shaped_of_RefB (by kernel_rfl) (by kernel_rfl)) (by kernel_rfl) (by kernel_rfl) (by kernel_rfl) (C1s os _)) ?_
 intro W base args ds gs before hval hW _ hsz hL _
 have hpar : Tryz.f3.params.toList = [22, 4] := by rw [Tryz.params3]
 refine B3R (P := Tryz.prog) (fid := 3) (f := Tryz.f3) (s := Rows.dumpLoadsSpec) (ts := [22, 5, 4]) (tb := 4) (by kernel_rfl) (by kernel_rfl) (slices_full_of _ (by kernel_rfl)) (by kernel_rfl)
  (by rw [hpar]; decide) (by rw [hpar]; intro t ht; exact Nat.lt_of_lt_of_le (show t < 23 by revert t; decide) (of_decide_eq_true (by kernel_rfl))) rfl ?_ (by kernel_rfl) (by kernel_rfl) ?_ (B8P hL) hval hW hsz
 ·intro ds hl
  rw [hpar] at hl
  match ds, hl with
  | [d0, d1], _ => rfl
 ·intro xs has
  rw [hpar] at has
  exact B2p xs has

theorem over : Rows.dumpLoadsRow.holds Tryz.pinned (OpenSpec.ofChange Rows.dumpLoadsSpec) :=
 OpenClaim.holds_of_wide 3 Tryz.f3 rfl rfl rfl rfl rfl rfl rfl ⟨rfl, rfl, rfl, rfl, rfl⟩ rfl rfl rfl rfl rfl (by kernel_rfl) Tryz.func3 (by kernel_rfl)
  (of_decide_eq_true (by kernel_rfl)) (by unfold Func.isWrapper; first | (rw [if_pos (by decide +kernel)]; kernel_rfl) | (rw [if_neg (by decide +kernel)]; exact ⟨rfl, rfl⟩))
  (fun os started H enc _ => C6T os started H enc)

end Go.Proofs.YtilggmmkmegefaaGreatDoor.closeDumpLoads
namespace Go.Proofs.YtilggmmkmegefaaGreatDoor
open Go

theorem dumpLoads_holds : Rows.DumpLoadsCardSaid :=
 Claim7.holds_tied_plain_at .later [] [.listed, .data] true (true, "820698d5bdf64ed008de312b03ed444bf3954e40add9064ed32cfa8609b007b3") true
  closeDumpLoads.over (fun _ h => by cases h) (by kernel_rfl) (fun _ h => by cases h) dumpLoads_row_tie rfl ⟨rfl, rfl⟩ (by kernel_rfl) rfl
  (fun f fn hf hfn => by
    obtain rfl : f = 3 := Option.some.inj ((show Tryz.prog.funcNamed "scripting/scriptinglaw40.DumpLoads" = some 3 by kernel_rfl).symm.trans hf) |>.symm
    obtain rfl : fn = Tryz.f3 := (Option.some.inj (Tryz.func3.symm.trans hfn)).symm
    exact ⟨by kernel_rfl, fun j t ht => by
     rw [Tryz.params3] at ht
     have hm : t ∈ [22, 4] := by simpa using Array.mem_of_getElem? ht
     have hall : ([22, 4].all fun u => !Tryz.prog.wantsStandIn u) = true := by kernel_rfl
     exact (show Tryz.prog.wantsStandIn t = false by simpa using List.all_eq_true.1 hall t hm)⟩)
  (by kernel_rfl)

end Go.Proofs.YtilggmmkmegefaaGreatDoor
