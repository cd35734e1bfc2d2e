/-
  What the bound on the arguments' bulk gives, as the arguments are seen abstractly. No condition.
-/
import Derived.Test.YtkjcokmbjdafnaaDoorArg
import Derived.Test.YtkjcokmbjdafnaaDoorRows
set_option linter.unusedVariables false
set_option linter.unusedSimpArgs false
namespace Go.Proofs.YtkjcokmbjdafnaaDoor
open Go Go.Abs
mutual
def bkV : V → Nat
  | .str s => s.length + 1
  | .isl es => bkLL es + 1
  | .agg cs => bkL cs
  | _ => 1
def bkL : List V → Nat
  | [] => 0
  | c :: r => bkV c + bkL r
def bkLL : List (List V) → Nat
  | [] => 0
  | c :: r => bkL c + bkLL r
end
theorem bkL_append : ∀ a b : List V, bkL (a ++ b) = bkL a + bkL b
  | [], b => by rw [List.nil_append, bkL]; omega
  | c :: r, b => by rw [List.cons_append, bkL, bkL, bkL_append r b]; omega
theorem bkL_flat : ∀ l : List (List V), bkL l.flatten = bkLL l
  | [] => by rw [List.flatten_nil, bkL, bkLL]
  | c :: r => by rw [List.flatten_cons, bkL_append, bkLL, bkL_flat r]
section
variable {H : Type}
mutual
theorem bk_toL : ∀ d : DataW H, bkL (toL d) ≤ Rows.uptoBulk d
  | .lit l => by cases l <;> simp [toL, bkL, bkV, Rows.uptoBulk]
  | .nil => by simp [toL, bkL, bkV, bkLL, Rows.uptoBulk]
  | .ptr d => by simp [toL, bkL, bkV, Rows.uptoBulk]
  | .slice elems spare => by
    have := bk_toLs elems
    simp only [toL, bkL, bkV, Rows.uptoBulk]
    omega
  | .agg parts => by
    have := bk_toLs parts
    simp only [toL, bkL_flat, Rows.uptoBulk]
    omega
  | .iface _ d => by simp [toL, bkL, bkV, Rows.uptoBulk]
  | .map entries => by simp [toL, bkL, bkV, Rows.uptoBulk]
  | .held _ => by simp [toL, bkL, bkV, Rows.uptoBulk]
theorem bk_toLs : ∀ l : List (DataW H), bkLL (toLs l) ≤ Rows.uptoBulkAll l
  | [] => by simp [toLs, bkLL]
  | d :: r => by
    have := bk_toL d
    have := bk_toLs r
    simp only [toLs, bkLL, Rows.uptoBulkAll]
    omega
end
theorem bk_as : ∀ {ds : List (DataW H)} {xs : List V}, AsOfs ds xs → bkL xs ≤ Rows.uptoBulkAll ds
  | [], [], _ => by simp [bkL]
  | d :: ds, a :: xs, ⟨h1, h2⟩ => by
    have h3 := bk_as h2
    have h4 := bk_toL d
    have h5 : bkV a = bkL (toL d) := by
      rcases h1 with rfl | h1
      · rw [bkV]
      · rw [← h1, bkL, bkL]; omega
    simp only [bkL, Rows.uptoBulkAll]
    omega
  | [], _ :: _, h => h.elim
  | _ :: _, [], h => h.elim
theorem bulk_append (l r : List (DataW H)) : Rows.uptoBulkAll (l ++ r) = Rows.uptoBulkAll l + Rows.uptoBulkAll r := by
  induction l with
  | nil => simp [Rows.uptoBulkAll]
  | cons x l ih => simp only [List.cons_append, Rows.uptoBulkAll, ih]; omega
end
end Go.Proofs.YtkjcokmbjdafnaaDoor
