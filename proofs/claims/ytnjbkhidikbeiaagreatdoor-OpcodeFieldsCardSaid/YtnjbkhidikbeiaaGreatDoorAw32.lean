/-
  The chapter's examples of instructions hold, by running them. No condition.
-/
import Derived.Test.YtnjbkhidikbeiaaGreatDoorLib32
set_option linter.unusedVariables false
set_option linter.unusedSimpArgs false
set_option maxRecDepth 1000000
set_option maxHeartbeats 0
namespace Go.Proofs.YtnjbkhidikbeiaaGreatDoor
open Go Go.Abs
attribute [local irreducible] CallS Run

/-- Answers known, by number and arguments. -/
def libOf (T : List (FuncId × List V × V)) (lib : Caller) : Caller := fun f xs h n => find f xs h n T
where
  find (f : FuncId) (xs : List V) (h : Heap) (n : Nat) : List (FuncId × List V × V) → Outs
    | [] => lib f xs h n
    | e :: r => bif Nat.beq e.1 f && V.beqL e.2.1 xs then oneO e.2.2 h n else find f xs h n r
theorem libOf_ok {T : List (FuncId × List V × V)} {lib : Caller} (hT : ∀ e ∈ T, Abs.Pure Tryz.prog e.1 e.2.1 e.2.2 ∧ e.2.1.map (V.sub lost) = e.2.1) (hl : CallerOK Tryz.prog lib) : CallerOK Tryz.prog (libOf T lib) := by
  intro f xs h n k hg
  have key : ∀ T' : List (FuncId × List V × V), (∀ e ∈ T', e ∈ T) → Go.Abs.Good (libOf.find lib f xs h n T') k → CallS Tryz.prog f xs h n k := by
    intro T'
    induction T' with
    | nil => exact fun _ hg => hl f xs h n k hg
    | cons e r ih =>
      intro hm hg
      simp only [libOf.find] at hg
      cases hb : Nat.beq e.1 f && V.beqL e.2.1 xs with
      | false => rw [hb] at hg; exact ih (fun x hx => hm x (List.mem_cons_of_mem _ hx)) hg
      | true =>
        rw [hb, cond_true] at hg
        rw [Bool.and_eq_true] at hb
        obtain ⟨h1, h2⟩ := hT e (hm e List.mem_cons_self)
        rw [← Nat.eq_of_beq_eq_true hb.1, ← V.beqL_eq hb.2]
        exact CallS.pure h1 h2 hg.one
  exact key T (fun _ h => h) hg
theorem sp0 : Abs.Pure Tryz.prog 27 [.str [106, 117, 109, 112, 32, 53], .str [32]] (.isl [[.str [106, 117, 109, 112]], [.str [53]]]) := by
  have := split_pure [106, 117, 109, 112, 32, 53] (by decide)
  rwa [show splitL [106, 117, 109, 112, 32, 53] = [[106, 117, 109, 112], [53]] by decide +kernel] at this
theorem sp1 : Abs.Pure Tryz.prog 27 [.str [106, 117, 109, 112], .str [32]] (.isl [[.str [106, 117, 109, 112]]]) := by
  have := split_pure [106, 117, 109, 112] (by decide)
  rwa [show splitL [106, 117, 109, 112] = [[106, 117, 109, 112]] by decide +kernel] at this
theorem sp2 : Abs.Pure Tryz.prog 27 [.str [104, 111, 112, 32, 49], .str [32]] (.isl [[.str [104, 111, 112]], [.str [49]]]) := by
  have := split_pure [104, 111, 112, 32, 49] (by decide)
  rwa [show splitL [104, 111, 112, 32, 49] = [[104, 111, 112], [49]] by decide +kernel] at this
theorem it0 : Abs.Pure Tryz.prog 17 [.int .i64 3] (.str [51]) := by
  have := itoa_pure 3 (by decide) (by decide)
  rwa [show Lib.itoa 3 = [51] by decide +kernel] at this
theorem it1 : Abs.Pure Tryz.prog 17 [.int .i64 (-1)] (.str [45, 49]) := by
  have := itoa_pure (-1) (by decide) (by decide)
  rwa [show Lib.itoa (-1) = [45, 49] by decide +kernel] at this
theorem it2 : Abs.Pure Tryz.prog 17 [.int .i64 2] (.str [50]) := by
  have := itoa_pure 2 (by decide) (by decide)
  rwa [show Lib.itoa 2 = [50] by decide +kernel] at this
theorem it3 : Abs.Pure Tryz.prog 17 [.int .i64 5] (.str [53]) := by
  have := itoa_pure 5 (by decide) (by decide)
  rwa [show Lib.itoa 5 = [53] by decide +kernel] at this
theorem at0 : Abs.Pure Tryz.prog 29 [.str [53]] (.tup [.int .i64 5, .cst .nilIface]) := atoi_pure [53] (by decide) 5 (by decide +kernel)
def libA : Caller := libOf [
  (27, [.str [106, 117, 109, 112, 32, 53], .str [32]], .isl [[.str [106, 117, 109, 112]], [.str [53]]]),
  (27, [.str [106, 117, 109, 112], .str [32]], .isl [[.str [106, 117, 109, 112]]]),
  (27, [.str [104, 111, 112, 32, 49], .str [32]], .isl [[.str [104, 111, 112]], [.str [49]]]),
  (17, [.int .i64 3], .str [51]),
  (17, [.int .i64 (-1)], .str [45, 49]),
  (17, [.int .i64 2], .str [50]),
  (17, [.int .i64 5], .str [53]),
  (29, [.str [53]], .tup [.int .i64 5, .cst .nilIface])] libF
theorem libA_ok : CallerOK Tryz.prog libA := libOf_ok (fun e he => by
  simp only [List.mem_cons, List.not_mem_nil, or_false] at he
  rcases he with rfl | rfl | rfl | rfl | rfl | rfl | rfl | rfl
  · exact ⟨sp0, rfl⟩
  · exact ⟨sp1, rfl⟩
  · exact ⟨sp2, rfl⟩
  · exact ⟨it0, rfl⟩
  · exact ⟨it1, rfl⟩
  · exact ⟨it2, rfl⟩
  · exact ⟨it3, rfl⟩
  · exact ⟨at0, rfl⟩) libF_ok
theorem awake_pure : Abs.Pure Tryz.prog 5 [] (.bool true) :=
  Pure.execB (m := 50000) (d := 30) (fr := 1) exT_ok libA_ok (by kernel_rfl)
end Go.Proofs.YtnjbkhidikbeiaaGreatDoor
