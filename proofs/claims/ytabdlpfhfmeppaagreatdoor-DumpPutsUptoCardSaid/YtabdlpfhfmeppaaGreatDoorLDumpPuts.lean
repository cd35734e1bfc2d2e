/-
  DumpPuts: whatever the input whose bulk is at most 1048576, the law returns true; the input reads as it did. The listed package-level variables hold what the program's text lays in them (a tied card). No other condition.
-/
import Derived.Test.YtabdlpfhfmeppaaGreatDoorArg
import Derived.Test.YtabdlpfhfmeppaaGreatDoorPost
import Derived.Test.YtabdlpfhfmeppaaGreatDoorDmLR
import Derived.Test.YtabdlpfhfmeppaaGreatDoorDmBk
import Derived.Test.YtabdlpfhfmeppaaGreatDoorTab
import Derived.Test.YtabdlpfhfmeppaaGreatDoorRows
import Derived.Test.YtabdlpfhfmeppaaGreatDoorTie
import Derived.Test.YtabdlpfhfmeppaaGreatDoorCards
import Derived.WalkKit
import Derived.ProofKit
import Derived.OpenShut
import Derived.LaidMore
import Derived.LaidOnce
import Derived.SevenTiedAt
import Derived.Deep.DeepHandedRow
import Derived.Deep.DeepWitnessRowRef
set_option linter.unusedVariables false
set_option linter.unusedSimpArgs false
set_option maxRecDepth 100000
namespace Go.Proofs.YtabdlpfhfmeppaaGreatDoor.closeDumpPuts
open Go Go.Abs Go.ChangeShapes Go.WideShapes Go.ChangeAt Go.RowKit
theorem law_dumpPuts (xs : List V) (has : ArgsT Tryz.prog [29] xs) (hsm : bkL xs ≤ 1048576) : Pure Tryz.prog 3 xs (.bool true) := by
  obtain ⟨v0, r0, rfl, h0, s0⟩ := has.cons
  obtain ⟨n0, rfl, w0⟩ := h0.struct (by kernel_rfl)
  obtain rfl := s0.nil
  exact dumpPuts_args n0 w0 hsm
theorem own : ownKnob Tryz.prog.godebug = none := by kernel_rfl
theorem door_met (os : Os) (args : Array Value) : laidMetH Tryz.prog Rows.dumpPutsUptoRow.laid ((World.doorLaid Tryz.prog 33 os).forCall (fun _ _ => 0) ⟨#[], args, []⟩).memory :=
  laidMetH_of_parts3 (fuel := 8) (laidMet_of_run' 8 (by kernel_rfl) (by kernel_rfl)) (by kernel_rfl) (by kernel_rfl)
theorem reads (os : Os) {H : Type} (enc : TypeId × Value → H) : DataW.whole enc Tryz.prog ((World.doorLaid Tryz.prog 33 os).forCall (fun _ _ => 0) ⟨#[], #[.agg #[.string ⟨#[]⟩, .int .i64 0, .int .i64 0, .bool false, .int .i64 0, .slice none 0 0, .slice none 0 0, .slice none 0 0, .slice none 0 0, .slice none 0 0, .slice none 0 0]], []⟩).memory Tryz.f3.params.toList Rows.dumpPutsSpec.vars false #[.agg #[.string ⟨#[]⟩, .int .i64 0, .int .i64 0, .bool false, .int .i64 0, .slice none 0 0, .slice none 0 0, .slice none 0 0, .slice none 0 0, .slice none 0 0, .slice none 0 0]].toList 8 = some ([.agg [.lit (.string []), .lit (.int .i64 0), .lit (.int .i64 0), .lit (.bool false), .lit (.int .i64 0), .nil, .nil, .nil, .nil, .nil, .nil]], [], []) := by kernel_rfl
theorem lifted (os : Os) (started : os.Started) (H : Type) (enc : TypeId × Value → H) (F : Stop.Interp) :
    ReturnsInHanded {} Tryz.checked os 3 .any ((Rows.OpenSpec.upto Rows.dumpPutsSpec).preRow enc Tryz.prog Tryz.f3 Rows.dumpPutsUptoRow.domain false Rows.dumpPutsUptoRow.laid) (((Rows.OpenSpec.upto Rows.dumpPutsSpec).at F).post enc Tryz.prog Tryz.f3 false true false false) := by
  refine returnsInHanded_of_row (C := Tryz.checked) (s := Rows.OpenSpec.upto Rows.dumpPutsSpec) own started (by kernel_rfl) Tryz.func3
    (witness_row_atRef (enc := enc) (C := Tryz.checked) false (World.doorLaid Tryz.prog 33 os) #[.agg #[.string ⟨#[]⟩, .int .i64 0, .int .i64 0, .bool false, .int .i64 0, .slice none 0 0, .slice none 0 0, .slice none 0 0, .slice none 0 0, .slice none 0 0, .slice none 0 0]] rfl (by kernel_rfl) (by kernel_rfl) (by kernel_rfl)
      (OpenSpec.preRow_of_cond 8 (reads os enc) (by kernel_rfl) (fun k hk => by cases hk; kernel_rfl) (by kernel_rfl) (door_met os _))) ?_
  intro W base args ds gs before hval hW _ hcond hwt hL _ _
  have hpar : Tryz.f3.params.toList = [29] := by rw [Tryz.params3]
  have hb : Rows.uptoBulkAll (ds ++ gs) ≤ 1048576 := of_decide_eq_true (hcond _ rfl)
  rw [bulk_append] at hb
  refine law_contractB (fun ds => Rows.uptoBulkAll ds ≤ 1048576) (P := Tryz.prog) (fid := 3) (f := Tryz.f3) (s := Rows.dumpPutsSpec) (ts := [29, 9, 3, 4, 22, 23, 24, 25, 26, 27, 54, 64, 67, 69, 62]) (tb := 4) (by kernel_rfl) (by kernel_rfl) (slices_full_of _ (by kernel_rfl)) (by kernel_rfl)
    (by rw [hpar]; decide) (by rw [hpar]; intro t ht; exact Nat.lt_of_lt_of_le (show t < 70 by revert t; decide) (of_decide_eq_true (by kernel_rfl))) rfl ?_ (by kernel_rfl) (by kernel_rfl) ?_ (glob_laid hL) hval hW hwt (by omega)
  · intro ds hl
    rw [hpar] at hl
    match ds, hl with
    | [d0], _ => rfl
  · intro xs ds has hAs hbk
    rw [hpar] at has
    exact law_dumpPuts xs has (Nat.le_trans (bk_as hAs) hbk)
theorem over : Rows.dumpPutsUptoRow.holds Tryz.pinned (Rows.OpenSpec.upto Rows.dumpPutsSpec) :=
  OpenClaim.holds_of_cond 3 Tryz.f3 rfl rfl rfl rfl rfl rfl rfl ⟨rfl, rfl, rfl, rfl, rfl⟩ rfl rfl rfl rfl rfl (by kernel_rfl) Tryz.func3 (by kernel_rfl)
    (of_decide_eq_true (by kernel_rfl)) (by unfold Func.isWrapper; first | (rw [if_pos (by decide +kernel)]; kernel_rfl) | (rw [if_neg (by decide +kernel)]; exact ⟨rfl, rfl⟩))
    (fun os started H enc _ F => by rw [OpenClaim.pre_eq_preRow]; exact lifted os started H enc F)
end Go.Proofs.YtabdlpfhfmeppaaGreatDoor.closeDumpPuts
namespace Go.Proofs.YtabdlpfhfmeppaaGreatDoor
open Go
theorem dumpPuts_holds : Rows.DumpPutsUptoCardSaid :=
  Claim7.holds_tied_plain_at .later [] [.listed, .data] true (true, "36af8c2a2b4a1a1d49a2153ad433d105e49b51db9f84a49fbbf4389066d7ef35") true
    closeDumpPuts.over (fun _ h => by cases h) (by kernel_rfl) (fun _ h => by cases h) dumpPutsUpto_row_tie rfl ⟨rfl, rfl⟩ (by kernel_rfl) rfl
    (fun f fn hf hfn => by
      obtain rfl : f = 3 := Option.some.inj ((show Tryz.prog.funcNamed "scripting/scriptinglaw40.DumpPuts" = some 3 by kernel_rfl).symm.trans hf) |>.symm
      obtain rfl : fn = Tryz.f3 := (Option.some.inj (Tryz.func3.symm.trans hfn)).symm
      exact ⟨by kernel_rfl, fun j t ht => by
        rw [Tryz.params3] at ht
        have hm : t ∈ [29] := by simpa using Array.mem_of_getElem? ht
        have hall : ([29].all fun u => !Tryz.prog.wantsStandIn u) = true := by kernel_rfl
        exact (show Tryz.prog.wantsStandIn t = false by simpa using List.all_eq_true.1 hall t hm)⟩)
    (by kernel_rfl)
end Go.Proofs.YtabdlpfhfmeppaaGreatDoor
