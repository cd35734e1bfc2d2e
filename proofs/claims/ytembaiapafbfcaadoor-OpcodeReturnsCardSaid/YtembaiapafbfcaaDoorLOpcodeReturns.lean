/-
  OpcodeReturns: whatever the input, the law returns true; the input reads as it did. The listed package-level variables hold what the program's text lays in them (a tied card). No other condition.
-/
import Derived.Test.YtembaiapafbfcaaDoorArg
import Derived.Test.YtembaiapafbfcaaDoorPost
import Derived.Test.YtembaiapafbfcaaDoorOp32t
import Derived.Test.YtembaiapafbfcaaDoorTab32
import Derived.Test.YtembaiapafbfcaaDoorRows
import Derived.Test.YtembaiapafbfcaaDoorTie
import Derived.Test.YtembaiapafbfcaaDoorCards
import Derived.WalkKit
import Derived.ProofKit
import Derived.OpenShut
import Derived.LaidMore
import Derived.LaidOnce
import Derived.SevenTiedAt
set_option linter.unusedVariables false
set_option linter.unusedSimpArgs false
set_option maxRecDepth 100000
namespace Go.Proofs.YtembaiapafbfcaaDoor.closeOpcodeReturns
open Go Go.Abs Go.ChangeShapes Go.WideShapes Go.ChangeAt Go.RowKit

theorem law_opcodeReturns (xs : List V) (has : ArgsT Tryd.prog [23, 24, 9] xs) : Pure Tryd.prog 3 xs (.bool true) := by
  obtain ⟨v0, r0, rfl, h0, s0⟩ := has.cons
  obtain ⟨n0, rfl, w0⟩ := h0.struct (by kernel_rfl)
  obtain ⟨v1, r1, rfl, h1, s1⟩ := s0.cons
  obtain ⟨n1, rfl, w1⟩ := h1.int Tryd.underlying24
  obtain ⟨v2, r2, rfl, h2, s2⟩ := s1.cons
  obtain ⟨n2, rfl, w2⟩ := h2.str Tryd.underlying9
  obtain rfl := s2.nil
  exact opcodeReturns_args n0 w0 n1 w1 n2 w2

theorem own : ownKnob Tryd.prog.godebug = none := by kernel_rfl

theorem laidMet_of_bits {P : Program} {w : World} {l : List (String × DataW Unit)} (fuel M : Nat)
    (h : ((DataW.laidRun P w fuel (l.map (·.1))).bind fun x => if nodupBits M x.2 0 && laidRowsB P w x.2 then some x.1 else none) = some l) : laidMet P l w := by
  obtain ⟨⟨a, ps⟩, hx, d⟩ := Option.bind_eq_some_iff.1 h
  split at d
  · rename_i hb
    simp only [Bool.and_eq_true] at hb
    obtain rfl := Option.some.inj d
    exact laidMet_of_run (ps := ps) fuel hx (decide_eq_true (nodupBits_sound hb.1).1) hb.2
  · cases d

/-- The door's own heap, the pinned table laid in. -/
noncomputable def pinWorld (os : Os) : World :=
  let w0 := World.doorLaid Tryd.prog 96 os
  { w0 with heap := w0.heap.modify 6 fun
    | .cells _ t frozen => .cells (Go.Pinned.utf8FirstZ.map fun (z : Nat) => Value.int .u8 (z : Int)).toArray t frozen
    | o => o }

theorem door_met (os : Os) (args : Array Value) : laidMetH Tryd.prog Rows.opcodeReturnsRow.laid ((pinWorld os).forCall (fun _ _ => 0) ⟨#[], args, []⟩).memory :=
  laidMetH_of_parts3 (fuel := 8) (laidMet_of_bits 8 257 (by kernel_rfl)) (by kernel_rfl) (by kernel_rfl)

theorem lifted (os : Os) (started : os.Started) (H : Type) (enc : TypeId × Value → H) :
    ReturnsInHanded {} Tryd.checked os 3 .any (fun w args => (Rows.opcodeReturnsSpec.pre enc Tryd.prog Tryd.f3 [] false w args ∧ laidMetH Tryd.prog Rows.opcodeReturnsRow.laid w) ∧ sizedMet enc Tryd.prog Tryd.f3 (OpenSpec.ofChange Rows.opcodeReturnsSpec) false w args)
      (Rows.opcodeReturnsSpec.post enc Tryd.prog Tryd.f3 false true false false) := by
  refine ret_and_shaped (C := Tryd.checked) (X := fun w _ => laidMetH Tryd.prog Rows.opcodeReturnsRow.laid w) (fun _ _ _ hh h => h.of_heap hh) own started (by kernel_rfl) Tryd.func3
    (ChangeSpec.witness_shaped (enc := enc) (C := Tryd.checked) (os := os) (X := fun w _ => laidMetH Tryd.prog Rows.opcodeReturnsRow.laid w) false (pinWorld os) #[.agg #[.int .i64 0, .int .i64 0, .int .i64 0, .int .i64 0, .int .i64 0], .int .u64 0, .string ⟨#[]⟩] 8 rfl (World.shaped_of_RefB (by kernel_rfl) (by kernel_rfl)) (by kernel_rfl) (by kernel_rfl) (by kernel_rfl) (door_met os _)) ?_
  intro W base args ds gs before hval hW hsz hL hS
  have hpar : Tryd.f3.params.toList = [23, 24, 9] := by rw [Tryd.params3]
  refine law_contract (P := Tryd.prog) (fid := 3) (f := Tryd.f3) (s := Rows.opcodeReturnsSpec) (ts := [23, 3, 24, 9, 4]) (tb := 4) (by kernel_rfl) (by kernel_rfl) (slices_full_of _ (by kernel_rfl)) (by kernel_rfl)
    (by rw [hpar]; decide) (by rw [hpar]; intro t ht; exact Nat.lt_of_lt_of_le (show t < 25 by revert t; decide) (of_decide_eq_true (by kernel_rfl))) rfl ?_ (by kernel_rfl) (by kernel_rfl) ?_ (glob_laid hL hS (i := 7) (j := 2)) hval hW hsz
  · intro ds hl
    rw [hpar] at hl
    match ds, hl with
    | [d0, d1, d2], _ => rfl
  · intro xs has
    rw [hpar] at has
    exact law_opcodeReturns xs has

theorem over : Rows.opcodeReturnsRow.holds Tryd.pinned (OpenSpec.ofChange Rows.opcodeReturnsSpec) :=
  OpenClaim.holds_of_wide 3 Tryd.f3 rfl rfl rfl rfl rfl rfl rfl ⟨rfl, rfl, rfl, rfl, rfl⟩ rfl rfl rfl rfl rfl (by kernel_rfl) Tryd.func3 (by kernel_rfl)
    (of_decide_eq_true (by kernel_rfl)) (by unfold Func.isWrapper; first | (rw [if_pos (by decide +kernel)]; kernel_rfl) | (rw [if_neg (by decide +kernel)]; exact ⟨rfl, rfl⟩))
    (fun os started H enc _ => lifted os started H enc)

end Go.Proofs.YtembaiapafbfcaaDoor.closeOpcodeReturns
namespace Go.Proofs.YtembaiapafbfcaaDoor
open Go

/-- The statement. -/
theorem opcodeReturns_holds : Rows.OpcodeReturnsCardSaid :=
  Claim7.holds_tied_plain_at .later [] [.data, .data, .data, .data, .sentinel, .sentinel, .listed, .data, .pinned] true (true, "7546eccbe60915473fb37bfa2a2e1e92a6da4b60a1d2513de58a56c5e04712b8") true
    closeOpcodeReturns.over (fun _ h => by cases h) (by kernel_rfl) (fun _ h => by cases h) opcodeReturns_row_tie rfl ⟨rfl, rfl⟩ (by kernel_rfl) rfl
    (fun f fn hf hfn => by
      obtain rfl : f = 3 := Option.some.inj ((show Tryd.prog.funcNamed "scripting/scriptinglaw32.OpcodeReturns" = some 3 by kernel_rfl).symm.trans hf) |>.symm
      obtain rfl : fn = Tryd.f3 := (Option.some.inj (Tryd.func3.symm.trans hfn)).symm
      exact ⟨by kernel_rfl, fun j t ht => by
        rw [Tryd.params3] at ht
        have hm : t ∈ [23, 24, 9] := by simpa using Array.mem_of_getElem? ht
        have hall : ([23, 24, 9].all fun u => !Tryd.prog.wantsStandIn u) = true := by kernel_rfl
        exact (show Tryd.prog.wantsStandIn t = false by simpa using List.all_eq_true.1 hall t hm)⟩)
    (by kernel_rfl)

end Go.Proofs.YtembaiapafbfcaaDoor
