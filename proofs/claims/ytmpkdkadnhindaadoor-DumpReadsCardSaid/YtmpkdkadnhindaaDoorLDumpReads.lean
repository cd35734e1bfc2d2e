/-
  DumpReads: whatever the input, the law returns true; the input reads as it did. The listed package-level variables hold what the program's text lays in them (a tied card). No other condition.
-/
import Derived.Test.YtmpkdkadnhindaaDoorArg
import Derived.Test.YtmpkdkadnhindaaDoorPost
import Derived.Test.YtmpkdkadnhindaaDoorDmGV
import Derived.Test.YtmpkdkadnhindaaDoorTab
import Derived.Test.YtmpkdkadnhindaaDoorRows
import Derived.Test.YtmpkdkadnhindaaDoorTie
import Derived.Test.YtmpkdkadnhindaaDoorCards
import Derived.WalkKit
import Derived.ProofKit
import Derived.OpenShut
import Derived.LaidMore
import Derived.LaidOnce
import Derived.SevenTiedAt
set_option linter.unusedVariables false
set_option linter.unusedSimpArgs false
set_option maxRecDepth 100000
namespace Go.Proofs.YtmpkdkadnhindaaDoor.closeDumpReads
open Go Go.Abs Go.ChangeShapes Go.WideShapes Go.ChangeAt Go.RowKit

theorem law_dumpReads (xs : List V) (has : ArgsT Tryd.prog [22, 4] xs) : Pure Tryd.prog 3 xs (.bool true) := by
  obtain ⟨v0, r0, rfl, h0, s0⟩ := has.cons
  obtain ⟨n0, rfl, l0, w0⟩ := h0.ints Tryd.underlying22 Tryd.underlying5
  obtain ⟨v1, r1, rfl, h1, s1⟩ := s0.cons
  obtain ⟨n1, rfl⟩ := h1.bool Tryd.underlying4
  obtain rfl := s1.nil
  exact dumpReads_args n0 l0 w0 n1

theorem own : ownKnob Tryd.prog.godebug = none := by kernel_rfl

theorem door_met (os : Os) (args : Array Value) : laidMetH Tryd.prog Rows.dumpReadsRow.laid ((World.doorLaid Tryd.prog 33 os).forCall (fun _ _ => 0) ⟨#[], args, []⟩).memory :=
  laidMetH_of_parts3 (fuel := 8) (laidMet_of_run' 8 (by kernel_rfl) (by kernel_rfl)) (by kernel_rfl) (by kernel_rfl)

theorem lifted (os : Os) (started : os.Started) (H : Type) (enc : TypeId × Value → H) :
    ReturnsInHanded {} Tryd.checked os 3 .any (fun w args => (Rows.dumpReadsSpec.pre enc Tryd.prog Tryd.f3 [] false w args ∧ laidMetH Tryd.prog Rows.dumpReadsRow.laid w) ∧ sizedMet enc Tryd.prog Tryd.f3 (OpenSpec.ofChange Rows.dumpReadsSpec) false w args)
      (Rows.dumpReadsSpec.post enc Tryd.prog Tryd.f3 false true false false) := by
  refine returnsInHanded_of_change_and (C := Tryd.checked) (X := fun w _ => laidMetH Tryd.prog Rows.dumpReadsRow.laid w) (fun _ _ _ hh h => h.of_heap hh) own started (by kernel_rfl) Tryd.func3
    (ChangeSpec.witness_shaped (enc := enc) (C := Tryd.checked) (os := os) (X := fun w _ => laidMetH Tryd.prog Rows.dumpReadsRow.laid w) false (World.doorLaid Tryd.prog 33 os) #[.slice none 0 0, .bool false] 8 rfl (World.shaped_of_RefB (by kernel_rfl) (by kernel_rfl)) (by kernel_rfl) (by kernel_rfl) (by kernel_rfl) (door_met os _)) ?_
  intro W base args ds gs before hval hW _ hsz hL _
  have hpar : Tryd.f3.params.toList = [22, 4] := by rw [Tryd.params3]
  refine law_contract (P := Tryd.prog) (fid := 3) (f := Tryd.f3) (s := Rows.dumpReadsSpec) (ts := [22, 5, 4]) (tb := 4) (by kernel_rfl) (by kernel_rfl) (slices_full_of _ (by kernel_rfl)) (by kernel_rfl)
    (by rw [hpar]; decide) (by rw [hpar]; intro t ht; exact Nat.lt_of_lt_of_le (show t < 23 by revert t; decide) (of_decide_eq_true (by kernel_rfl))) rfl ?_ (by kernel_rfl) (by kernel_rfl) ?_ (glob_laid hL) hval hW hsz
  · intro ds hl
    rw [hpar] at hl
    match ds, hl with
    | [d0, d1], _ => rfl
  · intro xs has
    rw [hpar] at has
    exact law_dumpReads xs has

theorem over : Rows.dumpReadsRow.holds Tryd.pinned (OpenSpec.ofChange Rows.dumpReadsSpec) :=
  OpenClaim.holds_of_wide 3 Tryd.f3 rfl rfl rfl rfl rfl rfl rfl ⟨rfl, rfl, rfl, rfl, rfl⟩ rfl rfl rfl rfl rfl (by kernel_rfl) Tryd.func3 (by kernel_rfl)
    (of_decide_eq_true (by kernel_rfl)) (by unfold Func.isWrapper; first | (rw [if_pos (by decide +kernel)]; kernel_rfl) | (rw [if_neg (by decide +kernel)]; exact ⟨rfl, rfl⟩))
    (fun os started H enc _ => lifted os started H enc)

end Go.Proofs.YtmpkdkadnhindaaDoor.closeDumpReads
namespace Go.Proofs.YtmpkdkadnhindaaDoor
open Go

/-- The statement. -/
theorem dumpReads_holds : Rows.DumpReadsCardSaid :=
  Claim7.holds_tied_plain_at .later [] [.listed, .data] true (true, "61d5d242ee9481548b2ea0b92519d8f6673ae5866e87ac0d394976fce3ea044a") true
    closeDumpReads.over (fun _ h => by cases h) (by kernel_rfl) (fun _ h => by cases h) dumpReads_row_tie rfl ⟨rfl, rfl⟩ (by kernel_rfl) rfl
    (fun f fn hf hfn => by
      obtain rfl : f = 3 := Option.some.inj ((show Tryd.prog.funcNamed "scripting/scriptinglaw40.DumpReads" = some 3 by kernel_rfl).symm.trans hf) |>.symm
      obtain rfl : fn = Tryd.f3 := (Option.some.inj (Tryd.func3.symm.trans hfn)).symm
      exact ⟨by kernel_rfl, fun j t ht => by
        rw [Tryd.params3] at ht
        have hm : t ∈ [22, 4] := by simpa using Array.mem_of_getElem? ht
        have hall : ([22, 4].all fun u => !Tryd.prog.wantsStandIn u) = true := by kernel_rfl
        exact (show Tryd.prog.wantsStandIn t = false by simpa using List.all_eq_true.1 hall t hm)⟩)
    (by kernel_rfl)

end Go.Proofs.YtmpkdkadnhindaaDoor
