/-
  DumpSums: whatever the input, the law returns true; the input reads as it did. The listed package-level variables hold what the program's text lays in them (a tied card). No other condition.
-/
import Derived.Test.YtfmgpfmhbienhaaDoorArg
import Derived.Test.YtfmgpfmhbienhaaDoorPost
import Derived.Test.YtfmgpfmhbienhaaDoorDmS
import Derived.Test.YtfmgpfmhbienhaaDoorTab
import Derived.Test.YtfmgpfmhbienhaaDoorRows
import Derived.Test.YtfmgpfmhbienhaaDoorTie
import Derived.Test.YtfmgpfmhbienhaaDoorCards
import Derived.WalkKit
import Derived.ProofKit
import Derived.OpenShut
import Derived.LaidMore
import Derived.LaidOnce
import Derived.SevenTiedAt
set_option linter.unusedVariables false
set_option linter.unusedSimpArgs false
set_option maxRecDepth 100000
namespace Go.Proofs.YtfmgpfmhbienhaaDoor.closeDumpSums
open Go Go.Abs Go.ChangeShapes Go.WideShapes Go.ChangeAt Go.RowKit

theorem law_dumpSums (xs : List V) (has : ArgsT Tryd.prog [22] xs) : Pure Tryd.prog 3 xs (.bool true) := by
  obtain ⟨v0, r0, rfl, h0, s0⟩ := has.cons
  obtain ⟨n0, rfl, l0, w0⟩ := h0.ints Tryd.underlying22 Tryd.underlying5
  obtain rfl := s0.nil
  exact dumpSums_args n0 l0 w0

theorem own : ownKnob Tryd.prog.godebug = none := by kernel_rfl

theorem door_met (os : Os) (args : Array Value) : laidMetH Tryd.prog Rows.dumpSumsRow.laid ((World.doorLaid Tryd.prog 33 os).forCall (fun _ _ => 0) ⟨#[], args, []⟩).memory :=
  laidMetH_of_parts3 (fuel := 8) (laidMet_of_run' 8 (by kernel_rfl) (by kernel_rfl)) (by kernel_rfl) (by kernel_rfl)

theorem lifted (os : Os) (started : os.Started) (H : Type) (enc : TypeId × Value → H) :
    ReturnsInHanded {} Tryd.checked os 3 .any (fun w args => (Rows.dumpSumsSpec.pre enc Tryd.prog Tryd.f3 [] false w args ∧ laidMetH Tryd.prog Rows.dumpSumsRow.laid w) ∧ sizedMet enc Tryd.prog Tryd.f3 (OpenSpec.ofChange Rows.dumpSumsSpec) false w args)
      (Rows.dumpSumsSpec.post enc Tryd.prog Tryd.f3 false true false false) := by
  refine returnsInHanded_of_change_and (C := Tryd.checked) (X := fun w _ => laidMetH Tryd.prog Rows.dumpSumsRow.laid w) (fun _ _ _ hh h => h.of_heap hh) own started (by kernel_rfl) Tryd.func3
    (ChangeSpec.witness_shaped (enc := enc) (C := Tryd.checked) (os := os) (X := fun w _ => laidMetH Tryd.prog Rows.dumpSumsRow.laid w) false (World.doorLaid Tryd.prog 33 os) #[.slice none 0 0] 8 rfl (World.shaped_of_RefB (by kernel_rfl) (by kernel_rfl)) (by kernel_rfl) (by kernel_rfl) (by kernel_rfl) (door_met os _)) ?_
  intro W base args ds gs before hval hW _ hsz hL _
  have hpar : Tryd.f3.params.toList = [22] := by rw [Tryd.params3]
  refine law_contract (P := Tryd.prog) (fid := 3) (f := Tryd.f3) (s := Rows.dumpSumsSpec) (ts := [22, 5, 4]) (tb := 4) (by kernel_rfl) (by kernel_rfl) (slices_full_of _ (by kernel_rfl)) (by kernel_rfl)
    (by rw [hpar]; decide) (by rw [hpar]; intro t ht; exact Nat.lt_of_lt_of_le (show t < 23 by revert t; decide) (of_decide_eq_true (by kernel_rfl))) rfl ?_ (by kernel_rfl) (by kernel_rfl) ?_ (glob_laid hL) hval hW hsz
  · intro ds hl
    rw [hpar] at hl
    match ds, hl with
    | [d0], _ => rfl
  · intro xs has
    rw [hpar] at has
    exact law_dumpSums xs has

theorem over : Rows.dumpSumsRow.holds Tryd.pinned (OpenSpec.ofChange Rows.dumpSumsSpec) :=
  OpenClaim.holds_of_wide 3 Tryd.f3 rfl rfl rfl rfl rfl rfl rfl ⟨rfl, rfl, rfl, rfl, rfl⟩ rfl rfl rfl rfl rfl (by kernel_rfl) Tryd.func3 (by kernel_rfl)
    (of_decide_eq_true (by kernel_rfl)) (by unfold Func.isWrapper; first | (rw [if_pos (by decide +kernel)]; kernel_rfl) | (rw [if_neg (by decide +kernel)]; exact ⟨rfl, rfl⟩))
    (fun os started H enc _ => lifted os started H enc)

end Go.Proofs.YtfmgpfmhbienhaaDoor.closeDumpSums
namespace Go.Proofs.YtfmgpfmhbienhaaDoor
open Go

/-- The statement. -/
theorem dumpSums_holds : Rows.DumpSumsCardSaid :=
  Claim7.holds_tied_plain_at .later [] [.listed, .data] true (true, "828cd48e3934811adfed46d8c28d073e3f493b10a437958515827abb5ba3c43b") true
    closeDumpSums.over (fun _ h => by cases h) (by kernel_rfl) (fun _ h => by cases h) dumpSums_row_tie rfl ⟨rfl, rfl⟩ (by kernel_rfl) rfl
    (fun f fn hf hfn => by
      obtain rfl : f = 3 := Option.some.inj ((show Tryd.prog.funcNamed "scripting/scriptinglaw40.DumpSums" = some 3 by kernel_rfl).symm.trans hf) |>.symm
      obtain rfl : fn = Tryd.f3 := (Option.some.inj (Tryd.func3.symm.trans hfn)).symm
      exact ⟨by kernel_rfl, fun j t ht => by
        rw [Tryd.params3] at ht
        have hm : t ∈ [22] := by simpa using Array.mem_of_getElem? ht
        have hall : ([22].all fun u => !Tryd.prog.wantsStandIn u) = true := by kernel_rfl
        exact (show Tryd.prog.wantsStandIn t = false by simpa using List.all_eq_true.1 hall t hm)⟩)
    (by kernel_rfl)

end Go.Proofs.YtfmgpfmhbienhaaDoor
