/-
  OpcodeTexts: the walk. No condition.
-/
import Derived.Test.YtcdfefcpbaiolaaGreatDoorTxtR3
set_option linter.unusedVariables false
set_option linter.unusedSimpArgs false
set_option maxRecDepth 100000
set_option maxHeartbeats 0
namespace Go.Proofs.YtcdfefcpbaiolaaGreatDoor
open Go Go.Abs
attribute [local irreducible] CallS Run
-- EV: Ins.v, Ins.row

theorem ins_ofX {row : List V} (h : Typed Tryz.prog 23 row) : ∃ i : Ins, row = i.row ∧ inB i.a ∧ inB i.b ∧ inB i.c ∧ inB i.d := by
  have h := h.fields Tryz.underlying23
  obtain ⟨a1, b1, rfl, h1, a2, b2, rfl, h2, a3, b3, rfl, h3, a4, b4, rfl, h4, a5, b5, rfl, h5, rfl⟩ := h
  obtain ⟨n1, rfl, _⟩ := h1.int_inv Tryz.underlying3
  obtain ⟨n2, rfl, g2⟩ := h2.int_inv Tryz.underlying3
  obtain ⟨n3, rfl, g3⟩ := h3.int_inv Tryz.underlying3
  obtain ⟨n4, rfl, g4⟩ := h4.int_inv Tryz.underlying3
  obtain ⟨n5, rfl, g5⟩ := h5.int_inv Tryz.underlying3
  have key : ∀ {n : Int}, (Lit.int .i64 n).wf = true → inB n := fun {n} h => by
    simp only [Lit.wf, Bool.and_eq_true, decide_eq_true_eq] at h
    have e1 : IntKind.min .i64 = -9223372036854775808 := by decide
    have e2 : IntKind.max .i64 = 9223372036854775807 := by decide
    rw [e1, e2] at h
    exact h
  exact ⟨⟨n1, n2, n3, n4, n5⟩, rfl, key g2, key g3, key g4, key g5⟩
theorem parseV_form (s : List UInt8) : ∃ (i : Ins) (e : Int), parseV s = .tup [i.v, .int .i64 e] := by
  have hI : ∀ op T, ∃ (i : Ins) (e : Int), parseI op s T = .tup [i.v, .int .i64 e] := by
    intro op T
    unfold parseI
    split
    · split
      · split
        · exact ⟨_, _, rfl⟩
        · exact ⟨⟨0, 0, 0, 0, 0⟩, _, rfl⟩
      · exact ⟨⟨0, 0, 0, 0, 0⟩, _, rfl⟩
    · exact ⟨⟨0, 0, 0, 0, 0⟩, _, rfl⟩
  unfold parseV
  split
  · exact ⟨⟨0, 0, 0, 0, 0⟩, _, rfl⟩
  · split
    · exact hI _ _
    · exact ⟨⟨0, 0, 0, 0, 0⟩, _, rfl⟩
theorem opcodeTexts_args (n0 : List V) (w0 : Typed Tryz.prog 23 n0) (n1 : List UInt8) (w1 : n1.length ≤ reachBytes) : Abs.Pure Tryz.prog 3 [.agg n0, .str n1] (.bool true) := by
  obtain ⟨i, rfl, hib⟩ := ins_ofX w0
  have t1 := text_pure i hib
  have t2 := rtext_pure i hib
  refine Pure.of 0 (CallS.enter scriptinglaw32_OpcodeTexts_ok (Nat.le_of_ble_eq_true rfl) (Run.go 100 ?_))
  by_cases hlong : (200 : Int) < (n1.length : Int)
  · simp -implicitDefEqProofs only [go_sem, Ins.v, Ins.row, initSl, hlong]
    refine CallS.pureF awake_pure (by simp -implicitDefEqProofs only [go_sem, Ins.v, Ins.row]) ?_
    simp -implicitDefEqProofs only [go_sem, Ins.v, Ins.row]
  have p1 := parse_pure n1 (by omega)
  have p2 := rparse_pure n1 (by omega)
  obtain ⟨j, e, hj⟩ := parseV_form n1
  rw [hj] at p1 p2
  simp -implicitDefEqProofs only [go_sem, Ins.v, Ins.row, initSl, hlong]
  refine CallS.pureF p1 (by simp -implicitDefEqProofs only [go_sem, Ins.v, Ins.row]) ?_
  simp -implicitDefEqProofs only [go_sem, Ins.v, Ins.row]
  refine CallS.pureF p2 (by simp -implicitDefEqProofs only [go_sem, Ins.v, Ins.row]) ?_
  simp -implicitDefEqProofs only [go_sem, Ins.v, Ins.row]
  repeat' first
    | refine And.intro ?_ ?_
    | (refine CallS.pureF t1 (by simp -implicitDefEqProofs only [go_sem, Ins.v, Ins.row]) ?_; simp -implicitDefEqProofs only [go_sem, Ins.v, Ins.row])
    | (refine CallS.pureF t2 (by simp -implicitDefEqProofs only [go_sem, Ins.v, Ins.row]) ?_; simp -implicitDefEqProofs only [go_sem, Ins.v, Ins.row])
    | (refine CallS.pureF awake_pure (by simp -implicitDefEqProofs only [go_sem, Ins.v, Ins.row]) ?_; simp -implicitDefEqProofs only [go_sem, Ins.v, Ins.row])
end Go.Proofs.YtcdfefcpbaiolaaGreatDoor
