/-
  The reference's Each and Size. No condition.
-/
import Derived.Test.YtcleahokjbeapaaDoorFnN
set_option linter.unusedVariables false
set_option linter.unusedSimpArgs false
set_option maxRecDepth 100000
set_option maxHeartbeats 0
namespace Go.Proofs.YtcleahokjbeapaaDoor
open Go.Abs
attribute [local irreducible] CallS Run RndS

theorem nil_or_last {α : Type} (l : List α) : l = [] ∨ ∃ r x, l = r ++ [x] := by
  rcases List.eq_nil_or_concat l with h | ⟨r, x, h⟩
  · exact .inl h
  · exact .inr ⟨r, x, by simpa using h⟩
theorem take_row {R : List (List V)} {l : List Fn} {m k : Nat} {q : Fn} (h : R.take m = l.map Fn.row) (hk : l[k]? = some q) (hm : l.length = m) : R[k]? = some q.row := by
  have hlt := (List.getElem?_eq_some_iff.1 hk).1
  have : (R.take m)[k]? = some q.row := by rw [h, List.getElem?_map, hk]; rfl
  rwa [List.getElem?_take_of_lt (by omega)] at this
theorem take_init {R : List (List V)} {l : List Fn} {q : Fn} {m : Nat} (h : R.take (m + 1) = (l ++ [q]).map Fn.row) (hl : l.length = m) : R.take m = l.map Fn.row := by
  have := congrArg (List.take m) h
  rw [List.take_take, Nat.min_eq_left (by omega)] at this
  rw [this]
  simp [← hl]

end Go.Proofs.YtcleahokjbeapaaDoor
