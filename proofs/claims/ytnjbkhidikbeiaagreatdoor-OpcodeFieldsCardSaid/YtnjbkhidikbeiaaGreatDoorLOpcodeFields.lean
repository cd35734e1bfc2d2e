/-
  OpcodeFields: whatever the input, the law returns true; the input reads as it did. The listed package-level variables hold what the program's text lays in them (a tied card). No other condition.
-/
import Derived.Test.YtnjbkhidikbeiaaGreatDoorArg
import Derived.Test.YtnjbkhidikbeiaaGreatDoorPost
import Derived.Test.YtnjbkhidikbeiaaGreatDoorOp32f
import Derived.Test.YtnjbkhidikbeiaaGreatDoorTab32
import Derived.Test.YtnjbkhidikbeiaaGreatDoorRows
import Derived.Test.YtnjbkhidikbeiaaGreatDoorTie
import Derived.Test.YtnjbkhidikbeiaaGreatDoorCards
import Derived.WalkKit
import Derived.ProofKit
import Derived.OpenShut
import Derived.LaidMore
import Derived.LaidOnce
import Derived.SevenTiedAt
set_option linter.unusedVariables false
set_option linter.unusedSimpArgs false
set_option maxRecDepth 100000
namespace Go.Proofs.YtnjbkhidikbeiaaGreatDoor.closeOpcodeFields
open Go Go.Abs Go.ChangeShapes Go.WideShapes Go.ChangeAt Go.RowKit

theorem law_opcodeFields (xs : List V) (has : ArgsT Tryz.prog [23] xs) : Pure Tryz.prog 3 xs (.bool true) := by
  obtain ⟨v0, r0, rfl, h0, s0⟩ := has.cons
  obtain ⟨n0, rfl, w0⟩ := h0.struct (by kernel_rfl)
  obtain rfl := s0.nil
  exact opcodeFields_args n0 w0

theorem own : ownKnob Tryz.prog.godebug = none := by kernel_rfl

theorem laidMet_of_bits {P : Program} {w : World} {l : List (String × DataW Unit)} (fuel M : Nat)
    (h : ((DataW.laidRun P w fuel (l.map (·.1))).bind fun x => if nodupBits M x.2 0 && laidRowsB P w x.2 then some x.1 else none) = some l) : laidMet P l w := by
  obtain ⟨⟨a, ps⟩, hx, d⟩ := Option.bind_eq_some_iff.1 h
  split at d
  · rename_i hb
    simp only [Bool.and_eq_true] at hb
    obtain rfl := Option.some.inj d
    exact laidMet_of_run (ps := ps) fuel hx (decide_eq_true (nodupBits_sound hb.1).1) hb.2
  · cases d

/-- The door's own heap, the pinned table laid in. -/
noncomputable def pinWorld (os : Os) : World :=
  let w0 := World.doorLaid Tryz.prog 96 os
  { w0 with heap := w0.heap.modify 6 fun
    | .cells _ t frozen => .cells (Go.Pinned.utf8FirstZ.map fun (z : Nat) => Value.int .u8 (z : Int)).toArray t frozen
    | o => o }

theorem door_met (os : Os) (args : Array Value) : laidMetH Tryz.prog Rows.opcodeFieldsRow.laid ((pinWorld os).forCall (fun _ _ => 0) ⟨#[], args, []⟩).memory :=
  laidMetH_of_parts3 (fuel := 8) (laidMet_of_bits 8 257 (by kernel_rfl)) (by kernel_rfl) (by kernel_rfl)

theorem lifted (os : Os) (started : os.Started) (H : Type) (enc : TypeId × Value → H) :
    ReturnsInHanded {} Tryz.checked os 3 .any (fun w args => (Rows.opcodeFieldsSpec.pre enc Tryz.prog Tryz.f3 [] false w args ∧ laidMetH Tryz.prog Rows.opcodeFieldsRow.laid w) ∧ sizedMet enc Tryz.prog Tryz.f3 (OpenSpec.ofChange Rows.opcodeFieldsSpec) false w args)
      (Rows.opcodeFieldsSpec.post enc Tryz.prog Tryz.f3 false true false false) := by
  refine ret_and_shaped (C := Tryz.checked) (X := fun w _ => laidMetH Tryz.prog Rows.opcodeFieldsRow.laid w) (fun _ _ _ hh h => h.of_heap hh) own started (by kernel_rfl) Tryz.func3
    (ChangeSpec.witness_shaped (enc := enc) (C := Tryz.checked) (os := os) (X := fun w _ => laidMetH Tryz.prog Rows.opcodeFieldsRow.laid w) false (pinWorld os) #[.agg #[.int .i64 0, .int .i64 0, .int .i64 0, .int .i64 0, .int .i64 0]] 8 rfl (World.shaped_of_RefB (by kernel_rfl) (by kernel_rfl)) (by kernel_rfl) (by kernel_rfl) (by kernel_rfl) (door_met os _)) ?_
  intro W base args ds gs before hval hW hsz hL hS
  have hpar : Tryz.f3.params.toList = [23] := by rw [Tryz.params3]
  refine law_contract (P := Tryz.prog) (fid := 3) (f := Tryz.f3) (s := Rows.opcodeFieldsSpec) (ts := [23, 3, 4]) (tb := 4) (by kernel_rfl) (by kernel_rfl) (slices_full_of _ (by kernel_rfl)) (by kernel_rfl)
    (by rw [hpar]; decide) (by rw [hpar]; intro t ht; exact Nat.lt_of_lt_of_le (show t < 24 by revert t; decide) (of_decide_eq_true (by kernel_rfl))) rfl ?_ (by kernel_rfl) (by kernel_rfl) ?_ (glob_laid hL hS (i := 7) (j := 2)) hval hW hsz
  · intro ds hl
    rw [hpar] at hl
    match ds, hl with
    | [d0], _ => rfl
  · intro xs has
    rw [hpar] at has
    exact law_opcodeFields xs has

theorem over : Rows.opcodeFieldsRow.holds Tryz.pinned (OpenSpec.ofChange Rows.opcodeFieldsSpec) :=
  OpenClaim.holds_of_wide 3 Tryz.f3 rfl rfl rfl rfl rfl rfl rfl ⟨rfl, rfl, rfl, rfl, rfl⟩ rfl rfl rfl rfl rfl (by kernel_rfl) Tryz.func3 (by kernel_rfl)
    (of_decide_eq_true (by kernel_rfl)) (by unfold Func.isWrapper; first | (rw [if_pos (by decide +kernel)]; kernel_rfl) | (rw [if_neg (by decide +kernel)]; exact ⟨rfl, rfl⟩))
    (fun os started H enc _ => lifted os started H enc)

end Go.Proofs.YtnjbkhidikbeiaaGreatDoor.closeOpcodeFields
namespace Go.Proofs.YtnjbkhidikbeiaaGreatDoor
open Go

/-- The statement. -/
theorem opcodeFields_holds : Rows.OpcodeFieldsCardSaid :=
  Claim7.holds_tied_plain_at .later [] [.data, .data, .data, .data, .sentinel, .sentinel, .listed, .data, .pinned] true (true, "4c0242c6ece6c7373fc49a902eb1ae3846b7d12507feb8c492a1751fd5e167db") true
    closeOpcodeFields.over (fun _ h => by cases h) (by kernel_rfl) (fun _ h => by cases h) opcodeFields_row_tie rfl ⟨rfl, rfl⟩ (by kernel_rfl) rfl
    (fun f fn hf hfn => by
      obtain rfl : f = 3 := Option.some.inj ((show Tryz.prog.funcNamed "scripting/scriptinglaw32.OpcodeFields" = some 3 by kernel_rfl).symm.trans hf) |>.symm
      obtain rfl : fn = Tryz.f3 := (Option.some.inj (Tryz.func3.symm.trans hfn)).symm
      exact ⟨by kernel_rfl, fun j t ht => by
        rw [Tryz.params3] at ht
        have hm : t ∈ [23] := by simpa using Array.mem_of_getElem? ht
        have hall : ([23].all fun u => !Tryz.prog.wantsStandIn u) = true := by kernel_rfl
        exact (show Tryz.prog.wantsStandIn t = false by simpa using List.all_eq_true.1 hall t hm)⟩)
    (by kernel_rfl)

end Go.Proofs.YtnjbkhidikbeiaaGreatDoor
