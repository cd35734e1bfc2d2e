/-
  strings.Repeat of one letter, by the shelf's contract. No condition.
-/
import Derived.Test.YtcleahokjbeapaaDoorShelf
import Derived.Test.YtcleahokjbeapaaDoorSim
set_option linter.unusedVariables false
set_option linter.unusedSimpArgs false
namespace Go.Proofs.YtcleahokjbeapaaDoor
open Go.Abs Go.Shelf Go.RowKit Go.Lib Go.RowKit

theorem pure_shelf {P : Program} {f : FuncId} {xs : List V} {r : V}
    (h : ∀ (w : World) O cargs, RL (env0 w O) xs cargs → Calls P f cargs w fun e w' => ∃ v, e = .returned v ∧ R (env0 w' O) r v ∧ Below w.heap.size w w') : Abs.Pure P f xs r := by
  intro w O cargs _ _ hR
  refine (h w O cargs hR).mono ?_
  rintro e w' ⟨v, h1, h2, h3⟩
  exact ⟨v, h1, h2, ⟨h3.size, h3.os, h3.output⟩, h3.block⟩

theorem repeatL_one : ∀ c : Nat, Go.Lib.repeatL [110] c = List.replicate c (110 : UInt8)
  | 0 => rfl
  | c + 1 => by
    rw [List.replicate_succ, ← repeatL_one c]; rfl

theorem repeat_pure (c : Nat) (hc : c ≤ 1000000) : Abs.Pure Tryd.prog 4 [.str [110], .int .i64 c] (.str (List.replicate c 110)) := by
  refine pure_shelf fun w O cargs hR => ?_
  obtain ⟨hl, hR⟩ := hR
  obtain ⟨cs⟩ := cargs
  match cs, hl with
  | [a, b], _ =>
    have ha := (hR 0 _ a rfl rfl).str_inv
    have hb := (hR 1 _ b rfl rfl).int_inv
    subst ha
    subst hb
    refine (Tryd.strings_Repeat ⟨⟨[110]⟩⟩ c w (by omega) (by show 1 * c ≤ _; omega)).mono ?_
    rintro e w' ⟨rfl, hb⟩
    refine ⟨_, rfl, ?_, hb⟩
    show R _ _ (.string ⟨(Go.Lib.repeatL [110] c).toArray⟩)
    rw [repeatL_one]
    exact R.str _
end Go.Proofs.YtcleahokjbeapaaDoor
