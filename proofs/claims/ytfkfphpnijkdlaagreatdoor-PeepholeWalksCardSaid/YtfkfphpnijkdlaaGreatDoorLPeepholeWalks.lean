/-
 PeepholeWalks: whatever the input, the law returns true; the input reads as it did. The listed package-level variables hold what the program's text lays in them (a tied card). No other condition.
-/
import Derived.Test.YtfkfphpnijkdlaaGreatDoorRnd
import Derived.Test.YtfkfphpnijkdlaaGreatDoorPost
import Derived.Test.YtfkfphpnijkdlaaGreatDoorPwZ
import Derived.Test.YtfkfphpnijkdlaaGreatDoorTab
import Derived.Test.YtfkfphpnijkdlaaGreatDoorRows
import Derived.Test.YtfkfphpnijkdlaaGreatDoorTie
import Derived.Test.YtfkfphpnijkdlaaGreatDoorCards
import Derived.WalkKit
import Derived.ProofKit
import Derived.OpenShut
import Derived.LaidMore
import Derived.LaidOnce
import Derived.SevenTiedAt
set_option linter.unusedVariables false
set_option linter.unusedSimpArgs false
set_option maxRecDepth 100000
namespace Go.Proofs.YtfkfphpnijkdlaaGreatDoor.closePeepholeWalks
open Go Go.Abs Go.ChangeShapes Go.WideShapes Go.ChangeAt Go.RowKit
theorem law_peepholeWalks (xs : List V) (has : ArgsT Tryz.prog [29, 30] xs) : Pure Tryz.prog 3 xs (.bool true) := by
 obtain ⟨v0, r0, rfl, h0, s0⟩ := has.cons
 obtain ⟨n0, rfl, w0⟩ := h0.struct (by kernel_rfl)
 obtain ⟨v1, r1, rfl, h1, s1⟩ := s0.cons
 obtain ⟨n1, rfl, l1, w1⟩ := h1.ints Tryz.underlying30 Tryz.underlying5
 obtain rfl := s1.nil
 exact peepholeWalks_args n0 w0 n1 l1 w1
theorem own : ownKnob Tryz.prog.godebug = none := by kernel_rfl
theorem door_met (os : Os) (args : Array Value) : laidMetH Tryz.prog Rows.peepholeWalksRow.laid ((World.doorLaid Tryz.prog 33 os).forCall (fun _ _ => 0) ⟨#[], args, []⟩).memory :=
 laidMetH_of_parts3 (fuel := 8) (laidMet_of_run' 8 (by kernel_rfl) (by kernel_rfl)) (by kernel_rfl) (by kernel_rfl)
theorem lifted (os : Os) (started : os.Started) (H : Type) (enc : TypeId × Value → H) :
  ReturnsInHanded {} Tryz.checked os 3 .any (fun w args => (Rows.peepholeWalksSpec.pre enc Tryz.prog Tryz.f3 [] false w args ∧ laidMetH Tryz.prog Rows.peepholeWalksRow.laid w) ∧ sizedMet enc Tryz.prog Tryz.f3 (OpenSpec.ofChange Rows.peepholeWalksSpec) false w args)
   (Rows.peepholeWalksSpec.post enc Tryz.prog Tryz.f3 false true false false) := by
 refine returnsInHanded_of_change_and (C := Tryz.checked) (X := fun w _ => laidMetH Tryz.prog Rows.peepholeWalksRow.laid w) (fun _ _ _ hh h => h.of_heap hh) own started (by kernel_rfl) Tryz.func3
  (ChangeSpec.witness_shaped (enc := enc) (C := Tryz.checked) (os := os) (X := fun w _ => laidMetH Tryz.prog Rows.peepholeWalksRow.laid w) false (World.doorLaid Tryz.prog 33 os) #[.agg #[.string ⟨#[]⟩, .int .i64 0, .int .i64 0, .bool false, .int .i64 0, .slice none 0 0, .slice none 0 0, .slice none 0 0, .slice none 0 0, .slice none 0 0, .slice none 0 0], .slice none 0 0] 8 rfl (World.shaped_of_RefB (by kernel_rfl) (by kernel_rfl)) (by kernel_rfl) (by kernel_rfl) (by kernel_rfl) (door_met os _)) ?_
 intro W base args ds gs before hval hW _ hsz hL _
 have hpar : Tryz.f3.params.toList = [29, 30] := by rw [Tryz.params3]
 refine law_contract (P := Tryz.prog) (fid := 3) (f := Tryz.f3) (s := Rows.peepholeWalksSpec) (ts := [29, 9, 3, 4, 22, 23, 24, 25, 26, 27, 38, 92, 84, 66, 90, 30, 5]) (tb := 4) (by kernel_rfl) (by kernel_rfl) (slices_full_of _ (by kernel_rfl)) (by kernel_rfl)
  (by rw [hpar]; decide) (by rw [hpar]; intro t ht; exact Nat.lt_of_lt_of_le (show t < 93 by revert t; decide) (of_decide_eq_true (by kernel_rfl))) rfl ?_ (by kernel_rfl) (by kernel_rfl) ?_ (glob_laid hL) hval hW hsz
 ·intro ds hl
  rw [hpar] at hl
  match ds, hl with
  | [d0, d1], _ => rfl
 ·intro xs has
  rw [hpar] at has
  exact law_peepholeWalks xs has
theorem over : Rows.peepholeWalksRow.holds Tryz.pinned (OpenSpec.ofChange Rows.peepholeWalksSpec) :=
 OpenClaim.holds_of_wide 3 Tryz.f3 rfl rfl rfl rfl rfl rfl rfl ⟨rfl, rfl, rfl, rfl, rfl⟩ rfl rfl rfl rfl rfl (by kernel_rfl) Tryz.func3 (by kernel_rfl)
  (of_decide_eq_true (by kernel_rfl)) (by unfold Func.isWrapper; first | (rw [if_pos (by decide +kernel)]; kernel_rfl) | (rw [if_neg (by decide +kernel)]; exact ⟨rfl, rfl⟩))
  (fun os started H enc _ => lifted os started H enc)
end Go.Proofs.YtfkfphpnijkdlaaGreatDoor.closePeepholeWalks
namespace Go.Proofs.YtfkfphpnijkdlaaGreatDoor
open Go
theorem peepholeWalks_holds : Rows.PeepholeWalksCardSaid :=
 Claim7.holds_tied_plain_at .later [] [.listed, .data] true (true, "c69d272a4b4427aaf4099ce09169ee2bf5bff7d65816f273112fe9ca724b7e2d") false
  closePeepholeWalks.over (fun _ h => by cases h) (by kernel_rfl) (fun _ h => by cases h) peepholeWalks_row_tie rfl ⟨rfl, rfl⟩ (by kernel_rfl) rfl
  (fun f fn hf hfn => by
    obtain rfl : f = 3 := Option.some.inj ((show Tryz.prog.funcNamed "scripting/scriptinglaw41.PeepholeWalks" = some 3 by kernel_rfl).symm.trans hf) |>.symm
    obtain rfl : fn = Tryz.f3 := (Option.some.inj (Tryz.func3.symm.trans hfn)).symm
    exact ⟨by kernel_rfl, fun j t ht => by
     rw [Tryz.params3] at ht
     have hm : t ∈ [29, 30] := by simpa using Array.mem_of_getElem? ht
     have hall : ([29, 30].all fun u => !Tryz.prog.wantsStandIn u) = true := by kernel_rfl
     exact (show Tryz.prog.wantsStandIn t = false by simpa using List.all_eq_true.1 hall t hm)⟩)
  (by kernel_rfl)
end Go.Proofs.YtfkfphpnijkdlaaGreatDoor
