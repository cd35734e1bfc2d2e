/-
  DumpDistinct: whatever the input whose bulk is at most 1048576, the law returns true; the input reads as it did. The listed package-level variables hold what the program's text lays in them (a tied card). No other condition.
-/
import Derived.Test.YtkjcokmbjdafnaaDoorArg
import Derived.Test.YtkjcokmbjdafnaaDoorPost
import Derived.Test.YtkjcokmbjdafnaaDoorDmK
import Derived.Test.YtkjcokmbjdafnaaDoorBulk
import Derived.Test.YtkjcokmbjdafnaaDoorTab
import Derived.Test.YtkjcokmbjdafnaaDoorRows
import Derived.Test.YtkjcokmbjdafnaaDoorTie
import Derived.Test.YtkjcokmbjdafnaaDoorCards
import Derived.WalkKit
import Derived.ProofKit
import Derived.OpenShut
import Derived.LaidMore
import Derived.LaidOnce
import Derived.SevenTiedAt
import Derived.Deep.DeepHandedRow
import Derived.Deep.DeepWitnessRowRef
set_option linter.unusedVariables false
set_option linter.unusedSimpArgs false
set_option maxRecDepth 100000
namespace Go.Proofs.YtkjcokmbjdafnaaDoor.closeDumpDistinct
open Go Go.Abs Go.ChangeShapes Go.WideShapes Go.ChangeAt Go.RowKit

theorem law_dumpDistinct (xs : List V) (has : ArgsT Tryd.prog [29, 29, 3] xs) (hsm : bkL xs ≤ 1048576) : Pure Tryd.prog 3 xs (.bool true) := by
  obtain ⟨v0, r0, rfl, h0, s0⟩ := has.cons
  obtain ⟨n0, rfl, w0⟩ := h0.struct (by kernel_rfl)
  obtain ⟨v1, r1, rfl, h1, s1⟩ := s0.cons
  obtain ⟨n1, rfl, w1⟩ := h1.struct (by kernel_rfl)
  obtain ⟨v2, r2, rfl, h2, s2⟩ := s1.cons
  obtain ⟨n2, rfl, w2⟩ := h2.int Tryd.underlying3
  obtain rfl := s2.nil
  exact dumpDistinct_args n0 w0 n1 w1 n2 w2 hsm

theorem own : ownKnob Tryd.prog.godebug = none := by kernel_rfl

theorem door_met (os : Os) (args : Array Value) : laidMetH Tryd.prog Rows.dumpDistinctUptoRow.laid ((World.doorLaid Tryd.prog 33 os).forCall (fun _ _ => 0) ⟨#[], args, []⟩).memory :=
  laidMetH_of_parts3 (fuel := 8) (laidMet_of_run' 8 (by kernel_rfl) (by kernel_rfl)) (by kernel_rfl) (by kernel_rfl)
theorem reads (os : Os) {H : Type} (enc : TypeId × Value → H) : DataW.whole enc Tryd.prog ((World.doorLaid Tryd.prog 33 os).forCall (fun _ _ => 0) ⟨#[], #[.agg #[.string ⟨#[]⟩, .int .i64 0, .int .i64 0, .bool false, .int .i64 0, .slice none 0 0, .slice none 0 0, .slice none 0 0, .slice none 0 0, .slice none 0 0, .slice none 0 0], .agg #[.string ⟨#[]⟩, .int .i64 0, .int .i64 0, .bool false, .int .i64 0, .slice none 0 0, .slice none 0 0, .slice none 0 0, .slice none 0 0, .slice none 0 0, .slice none 0 0], .int .i64 0], []⟩).memory Tryd.f3.params.toList Rows.dumpDistinctSpec.vars false #[.agg #[.string ⟨#[]⟩, .int .i64 0, .int .i64 0, .bool false, .int .i64 0, .slice none 0 0, .slice none 0 0, .slice none 0 0, .slice none 0 0, .slice none 0 0, .slice none 0 0], .agg #[.string ⟨#[]⟩, .int .i64 0, .int .i64 0, .bool false, .int .i64 0, .slice none 0 0, .slice none 0 0, .slice none 0 0, .slice none 0 0, .slice none 0 0, .slice none 0 0], .int .i64 0].toList 8 = some ([.agg [.lit (.string []), .lit (.int .i64 0), .lit (.int .i64 0), .lit (.bool false), .lit (.int .i64 0), .nil, .nil, .nil, .nil, .nil, .nil], .agg [.lit (.string []), .lit (.int .i64 0), .lit (.int .i64 0), .lit (.bool false), .lit (.int .i64 0), .nil, .nil, .nil, .nil, .nil, .nil], .lit (.int .i64 0)], [], []) := by kernel_rfl

theorem lifted (os : Os) (started : os.Started) (H : Type) (enc : TypeId × Value → H) (F : Stop.Interp) :
    ReturnsInHanded {} Tryd.checked os 3 .any ((Rows.OpenSpec.upto Rows.dumpDistinctSpec).preRow enc Tryd.prog Tryd.f3 Rows.dumpDistinctUptoRow.domain false Rows.dumpDistinctUptoRow.laid) (((Rows.OpenSpec.upto Rows.dumpDistinctSpec).at F).post enc Tryd.prog Tryd.f3 false true false false) := by
  refine returnsInHanded_of_row (C := Tryd.checked) (s := Rows.OpenSpec.upto Rows.dumpDistinctSpec) own started (by kernel_rfl) Tryd.func3
    (witness_row_atRef (enc := enc) (C := Tryd.checked) false (World.doorLaid Tryd.prog 33 os) #[.agg #[.string ⟨#[]⟩, .int .i64 0, .int .i64 0, .bool false, .int .i64 0, .slice none 0 0, .slice none 0 0, .slice none 0 0, .slice none 0 0, .slice none 0 0, .slice none 0 0], .agg #[.string ⟨#[]⟩, .int .i64 0, .int .i64 0, .bool false, .int .i64 0, .slice none 0 0, .slice none 0 0, .slice none 0 0, .slice none 0 0, .slice none 0 0, .slice none 0 0], .int .i64 0] rfl (by kernel_rfl) (by kernel_rfl) (by kernel_rfl)
      (OpenSpec.preRow_of_cond 8 (reads os enc) (by kernel_rfl) (fun k hk => by cases hk; kernel_rfl) (by kernel_rfl) (door_met os _))) ?_
  intro W base args ds gs before hval hW _ hcond hwt hL _ _
  have hpar : Tryd.f3.params.toList = [29, 29, 3] := by rw [Tryd.params3]
  have hb : Rows.uptoBulkAll (ds ++ gs) ≤ 1048576 := of_decide_eq_true (hcond _ rfl)
  rw [bulk_append] at hb
  refine law_contractB (fun ds => Rows.uptoBulkAll ds ≤ 1048576) (P := Tryd.prog) (fid := 3) (f := Tryd.f3) (s := Rows.dumpDistinctSpec) (ts := [29, 9, 3, 4, 22, 23, 24, 25, 26, 27, 52, 62, 65, 67, 60]) (tb := 4) (by kernel_rfl) (by kernel_rfl) (slices_full_of _ (by kernel_rfl)) (by kernel_rfl)
    (by rw [hpar]; decide) (by rw [hpar]; intro t ht; exact Nat.lt_of_lt_of_le (show t < 68 by revert t; decide) (of_decide_eq_true (by kernel_rfl))) rfl ?_ (by kernel_rfl) (by kernel_rfl) ?_ (glob_laid hL) hval hW hwt (by omega)
  · intro ds hl
    rw [hpar] at hl
    match ds, hl with
    | [d0, d1, d2], _ => rfl
  · intro xs ds has hAs hbk
    rw [hpar] at has
    exact law_dumpDistinct xs has (Nat.le_trans (bk_as hAs) hbk)

theorem over : Rows.dumpDistinctUptoRow.holds Tryd.pinned (Rows.OpenSpec.upto Rows.dumpDistinctSpec) :=
  OpenClaim.holds_of_cond 3 Tryd.f3 rfl rfl rfl rfl rfl rfl rfl ⟨rfl, rfl, rfl, rfl, rfl⟩ rfl rfl rfl rfl rfl (by kernel_rfl) Tryd.func3 (by kernel_rfl)
    (of_decide_eq_true (by kernel_rfl)) (by unfold Func.isWrapper; first | (rw [if_pos (by decide +kernel)]; kernel_rfl) | (rw [if_neg (by decide +kernel)]; exact ⟨rfl, rfl⟩))
    (fun os started H enc _ F => by rw [OpenClaim.pre_eq_preRow]; exact lifted os started H enc F)

end Go.Proofs.YtkjcokmbjdafnaaDoor.closeDumpDistinct
namespace Go.Proofs.YtkjcokmbjdafnaaDoor
open Go

/-- The statement. -/
theorem dumpDistinct_holds : Rows.DumpDistinctUptoCardSaid :=
  Claim7.holds_tied_plain_at .later [] [.listed, .data] true (true, "64f31173089cb28c4c300b6bacb33ff22b68c2b3544acec685516f8db606f279") true
    closeDumpDistinct.over (fun _ h => by cases h) (by kernel_rfl) (fun _ h => by cases h) dumpDistinctUpto_row_tie rfl ⟨rfl, rfl⟩ (by kernel_rfl) rfl
    (fun f fn hf hfn => by
      obtain rfl : f = 3 := Option.some.inj ((show Tryd.prog.funcNamed "scripting/scriptinglaw40.DumpDistinct" = some 3 by kernel_rfl).symm.trans hf) |>.symm
      obtain rfl : fn = Tryd.f3 := (Option.some.inj (Tryd.func3.symm.trans hfn)).symm
      exact ⟨by kernel_rfl, fun j t ht => by
        rw [Tryd.params3] at ht
        have hm : t ∈ [29, 29, 3] := by simpa using Array.mem_of_getElem? ht
        have hall : ([29, 29, 3].all fun u => !Tryd.prog.wantsStandIn u) = true := by kernel_rfl
        exact (show Tryd.prog.wantsStandIn t = false by simpa using List.all_eq_true.1 hall t hm)⟩)
    (by kernel_rfl)

end Go.Proofs.YtkjcokmbjdafnaaDoor
