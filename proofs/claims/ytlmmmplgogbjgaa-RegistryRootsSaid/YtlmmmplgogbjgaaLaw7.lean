/-
  Registry: a nil registry has nothing and refuses everything. No condition.
-/
import Derived.Test.YtlmmmplgogbjgaaLaw1
import Derived.Test.YtlmmmplgogbjgaaArg
set_option linter.unusedVariables false
set_option linter.unusedSimpArgs false
set_option maxRecDepth 100000
set_option maxHeartbeats 0
namespace Go.Proofs.Ytlmmmplgogbjgaa
open Go.Abs
attribute [local irreducible] CallS Run
-- EV: nO, nM, nV, nF, nL, Val.v, Val.row, Val.none

structure Op where
  kind : Int
  r : Int
  name : List UInt8
  v : Val
def Op.row (o : Op) : List V := .int .i64 o.kind :: .int .i64 o.r :: .str o.name :: o.v.row

theorem val_of {vs : List V} (h : Typed Try.prog 33 vs) : ∃ v : Val, vs = v.row := by
  obtain ⟨_, _, rfl, h1, _, _, rfl, h2, _, _, rfl, h3, _, _, rfl, h4, rfl⟩ := h.fields Try.underlying33
  obtain ⟨k, rfl, _⟩ := h1.int_inv Try.underlying3
  obtain ⟨_, _, rfl, h5, _, _, rfl, h6, rfl⟩ := h2.fields Try.underlying31
  obtain ⟨p, rfl, _⟩ := h5.int_inv Try.underlying3
  obtain ⟨q, rfl, _⟩ := h6.int_inv Try.underlying3
  obtain ⟨s, rfl, _⟩ := h3.str_inv Try.underlying9
  obtain ⟨r, rfl, _⟩ := h4.int_inv Try.underlying3
  exact ⟨⟨k, p, q, s, r⟩, rfl⟩
theorem op_of {vs : List V} (h : Typed Try.prog 35 vs) : ∃ o : Op, vs = o.row := by
  obtain ⟨_, _, rfl, h1, _, _, rfl, h2, _, _, rfl, h3, _, _, rfl, h4, rfl⟩ := h.fields Try.underlying35
  obtain ⟨k, rfl, _⟩ := h1.int_inv Try.underlying3
  obtain ⟨r, rfl, _⟩ := h2.int_inv Try.underlying3
  obtain ⟨s, rfl, _⟩ := h3.str_inv Try.underlying9
  obtain ⟨v, rfl⟩ := val_of h4
  exact ⟨⟨k, r, s, v⟩, by simp [Op.row]⟩

end Go.Proofs.Ytlmmmplgogbjgaa
