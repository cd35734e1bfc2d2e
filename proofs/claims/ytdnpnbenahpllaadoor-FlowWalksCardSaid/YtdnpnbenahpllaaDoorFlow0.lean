/-
  Functions found as data. No condition.
-/
import Derived.Test.YtdnpnbenahpllaaDoorInts35
import Derived.Test.YtdnpnbenahpllaaDoorFlowG
import Derived.Test.YtdnpnbenahpllaaDoorFlowA
import Derived.Test.YtdnpnbenahpllaaDoorTsub
import Derived.Test.YtdnpnbenahpllaaDoorPro
set_option linter.unusedVariables false
set_option linter.unusedSimpArgs false
set_option maxRecDepth 100000
set_option maxHeartbeats 0
namespace Go.Proofs.YtdnpnbenahpllaaDoor
open Go.Abs
attribute [local irreducible] CallS Run

theorem ints_refl (a : List Int) (hB : a.length ≤ 1000000) : Pure Tryd.prog 11 [.isl (a.map zrw), .isl (a.map zrw)] (.bool true) := by
  have := ints_pure a a hB
  rwa [show decide (a = a) = true by simp] at this
/-- A row of a function: its names stand for themselves. -/
structure RowOK (p : Pro) (es c6 c8 c9 : List (List V)) : Prop where
  row : p.row = [.str p.name, .int .i64 p.line, .int .i64 p.params, .bool p.vararg, .int .i64 p.regs, .isl es, .isl c6, .isl p.consts, .isl c8, .isl c9, .isl p.vars]
  sub : [.str p.name, .int .i64 p.line, .int .i64 p.params, .bool p.vararg, .int .i64 p.regs, V.isl es, .isl c6, .isl p.consts, .isl c8, .isl c9, .isl p.vars].map (V.sub lost) = [.str p.name, .int .i64 p.line, .int .i64 p.params, .bool p.vararg, .int .i64 p.regs, .isl es, .isl c6, .isl p.consts, .isl c8, .isl c9, .isl p.vars]
theorem protos_len {row : List V} (h : Typed Tryd.prog 29 row) : ∃ es, row[8]? = some (.isl es) ∧ es.length ≤ reachBytes := by
  have h := h.fields Tryd.underlying29
  obtain ⟨a0, b0, rfl, h0, a1, b1, rfl, h1, a2, b2, rfl, h2, a3, b3, rfl, h3, a4, b4, rfl, h4, a5, b5, rfl, h5, a6, b6, rfl, h6, a7, b7, rfl, h7, a8, b8, rfl, h8, _⟩ := h
  obtain ⟨_, rfl, _⟩ := h0.str_inv Tryd.underlying9
  obtain ⟨_, rfl, _⟩ := h1.int_inv Tryd.underlying3
  obtain ⟨_, rfl, _⟩ := h2.int_inv Tryd.underlying3
  obtain ⟨_, rfl⟩ := h3.bool_inv Tryd.underlying4
  obtain ⟨_, rfl, _⟩ := h4.int_inv Tryd.underlying3
  obtain ⟨_, rfl, _⟩ := h5.slice_inv Tryd.underlying22
  obtain ⟨_, rfl, _⟩ := h6.slice_inv Tryd.underlying23
  obtain ⟨_, rfl, _⟩ := h7.slice_inv Tryd.underlying24
  obtain ⟨es, rfl, hl, _⟩ := h8.slice_inv Tryd.underlying25
  exact ⟨es, rfl, hl⟩
theorem proto_found {row : List V} (h : Typed Tryd.prog 29 row) : ∃ p : Pro, row = p.row ∧ p.row.map (V.sub lost) = p.row ∧ p.protos.length ≤ reachBytes := by
  obtain ⟨p, rfl⟩ := (pro_of h).1 rfl
  refine ⟨p, rfl, h.sub lost, ?_⟩
  obtain ⟨es, h1, h2⟩ := protos_len h
  rw [p.row_eq] at h1
  have : V.isl (p.protos.map Pro.row) = .isl es := by simpa using h1
  injection this with this
  rw [← this, List.length_map] at h2
  exact h2

end Go.Proofs.YtdnpnbenahpllaaDoor
