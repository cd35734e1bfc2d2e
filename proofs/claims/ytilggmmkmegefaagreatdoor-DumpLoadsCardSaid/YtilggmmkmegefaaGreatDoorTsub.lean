/-
 Data by type name no blocks. No condition.
-/
import Derived.Test.YtilggmmkmegefaaGreatDoorTyp
set_option linter.unusedVariables false
namespace Go.Abs
theorem C4k.sub {P : Program} {t : TypeId} {row : List V} (h : C4k P t row) (φ : Nat → Nat → Nat → Nat → V) : row.map (V.sub φ) = row := by
 have flat : ∀ {cs : List (List V)}, (∀ c ∈ cs, c.map (V.sub φ) = c) → cs.flatten.map (V.sub φ) = cs.flatten := by
  intro cs h
  rw [List.map_flatten]
  congr 1
  exact (List.map_congr_left h).trans (List.map_id _)
 induction h with
 | bool h b => simp [V.sub]
 | int h n hn => simp [V.sub]
 | str h s hs => simp [V.sub]
 | slice h es hl hb he ih =>
  simp only [List.map_cons, List.map_nil, V.sub, W3, List.cons.injEq, and_true, V.isl.injEq]
  exact (List.map_congr_left fun r hr => ih r hr).trans (List.map_id _)
 | struct h cs hl hf ih =>
  exact flat fun c hc => by
   obtain ⟨i, hi, rfl⟩ := List.getElem_of_mem hc
   exact ih i _ _ (List.getElem?_eq_getElem (by omega)) (List.getElem?_eq_getElem hi)
 | array h cs hl hf ih => exact flat ih
end Go.Abs
