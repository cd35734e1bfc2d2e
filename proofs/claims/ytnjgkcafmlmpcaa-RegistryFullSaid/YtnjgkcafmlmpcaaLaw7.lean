/-
  Registry: a nil registry has nothing and refuses everything. No condition.
-/
import Derived.Test.YtnjgkcafmlmpcaaLaw1
import Derived.Test.YtnjgkcafmlmpcaaArg
set_option linter.unusedVariables false
set_option linter.unusedSimpArgs false
set_option maxRecDepth 100000
set_option maxHeartbeats 0
namespace Go.Proofs.Ytnjgkcafmlmpcaa
open Go.Abs
attribute [local irreducible] CallS Run
-- EV: nO, nM, nV, nF, nL, Val.v, Val.row, Val.none

theorem nref (v : Val) : Pure Try.prog 12 [.nilp, v.v] (.tup [.int .i64 0, .int .i64 1]) := by
  refine Pure.of 0 (CallS.enter registry_Registry_Ref_ok (Nat.le_of_ble_eq_true rfl) (Run.go 100 ?_))
  simp -implicitDefEqProofs only [go_sem, Nat.reduceEqDiff, Nat.reduceAdd, Nat.reduceSub, Nat.reduceMul, Nat.reduceLeDiff, Nat.reduceLT, Nat.reduceBEq, Int.reduceToNat, Int.reduceLE, Int.reduceLT, Int.reduceEq, Int.reduceNe, Int.reduceAdd, Int.reduceSub, Int.reduceNeg, Int.toNat_natCast, reduceCtorEq, reduceIte, Nat.lt_irrefl, and_self, not_false_eq_true, not_true_eq_false, nO, nM, nV, nF, nL, Val.v, Val.row, Val.none, initSl]
theorem nvalue (z : Int) : Pure Try.prog 20 [.nilp, .int .i64 z] (.tup [Val.none.v, .int .i64 1]) := by
  refine Pure.of 0 (CallS.enter registry_Registry_Value_ok (Nat.le_of_ble_eq_true rfl) (Run.go 100 ?_))
  simp -implicitDefEqProofs only [go_sem, Nat.reduceEqDiff, Nat.reduceAdd, Nat.reduceSub, Nat.reduceMul, Nat.reduceLeDiff, Nat.reduceLT, Nat.reduceBEq, Int.reduceToNat, Int.reduceLE, Int.reduceLT, Int.reduceEq, Int.reduceNe, Int.reduceAdd, Int.reduceSub, Int.reduceNeg, Int.toNat_natCast, reduceCtorEq, reduceIte, Nat.lt_irrefl, and_self, not_false_eq_true, not_true_eq_false, nO, nM, nV, nF, nL, Val.v, Val.row, Val.none, initSl]
theorem nfind (s : List UInt8) : Pure Try.prog 21 [.nilp, .str s] (.tup [Val.none.v, .bool false]) := by
  refine Pure.of 0 (CallS.enter registry_Registry_Find_ok (Nat.le_of_ble_eq_true rfl) (Run.go 100 ?_))
  simp -implicitDefEqProofs only [go_sem, Nat.reduceEqDiff, Nat.reduceAdd, Nat.reduceSub, Nat.reduceMul, Nat.reduceLeDiff, Nat.reduceLT, Nat.reduceBEq, Int.reduceToNat, Int.reduceLE, Int.reduceLT, Int.reduceEq, Int.reduceNe, Int.reduceAdd, Int.reduceSub, Int.reduceNeg, Int.toNat_natCast, reduceCtorEq, reduceIte, Nat.lt_irrefl, and_self, not_false_eq_true, not_true_eq_false, nO, nM, nV, nF, nL, Val.v, Val.row, Val.none, initSl]
theorem nunref (z : Int) : Pure Try.prog 13 [.nilp, .int .i64 z] (.int .i64 1) := by
  refine Pure.of 0 (CallS.enter registry_Registry_Unref_ok (Nat.le_of_ble_eq_true rfl) (Run.go 100 ?_))
  simp -implicitDefEqProofs only [go_sem, Nat.reduceEqDiff, Nat.reduceAdd, Nat.reduceSub, Nat.reduceMul, Nat.reduceLeDiff, Nat.reduceLT, Nat.reduceBEq, Int.reduceToNat, Int.reduceLE, Int.reduceLT, Int.reduceEq, Int.reduceNe, Int.reduceAdd, Int.reduceSub, Int.reduceNeg, Int.toNat_natCast, reduceCtorEq, reduceIte, Nat.lt_irrefl, and_self, not_false_eq_true, not_true_eq_false, nO, nM, nV, nF, nL, Val.v, Val.row, Val.none, initSl]
theorem nput (s : List UInt8) (v : Val) : Pure Try.prog 22 [.nilp, .str s, v.v] (.int .i64 1) := by
  refine Pure.of 0 (CallS.enter registry_Registry_Put_ok (Nat.le_of_ble_eq_true rfl) (Run.go 100 ?_))
  simp -implicitDefEqProofs only [go_sem, Nat.reduceEqDiff, Nat.reduceAdd, Nat.reduceSub, Nat.reduceMul, Nat.reduceLeDiff, Nat.reduceLT, Nat.reduceBEq, Int.reduceToNat, Int.reduceLE, Int.reduceLT, Int.reduceEq, Int.reduceNe, Int.reduceAdd, Int.reduceSub, Int.reduceNeg, Int.toNat_natCast, reduceCtorEq, reduceIte, Nat.lt_irrefl, and_self, not_false_eq_true, not_true_eq_false, nO, nM, nV, nF, nL, Val.v, Val.row, Val.none, initSl]
theorem nlen : Pure Try.prog 14 [.nilp] (.int .i64 0) := by
  refine Pure.of 0 (CallS.enter registry_Registry_Len_ok (Nat.le_of_ble_eq_true rfl) (Run.go 100 ?_))
  simp -implicitDefEqProofs only [go_sem, Nat.reduceEqDiff, Nat.reduceAdd, Nat.reduceSub, Nat.reduceMul, Nat.reduceLeDiff, Nat.reduceLT, Nat.reduceBEq, Int.reduceToNat, Int.reduceLE, Int.reduceLT, Int.reduceEq, Int.reduceNe, Int.reduceAdd, Int.reduceSub, Int.reduceNeg, Int.toNat_natCast, reduceCtorEq, reduceIte, Nat.lt_irrefl, and_self, not_false_eq_true, not_true_eq_false, nO, nM, nV, nF, nL, Val.v, Val.row, Val.none, initSl]
theorem nroots : Pure Try.prog 26 [.nilp] (.isl []) := by
  refine Pure.of 0 (CallS.enter registry_Registry_Roots_ok (Nat.le_of_ble_eq_true rfl) (Run.go 100 ?_))
  simp -implicitDefEqProofs only [go_sem, Nat.reduceEqDiff, Nat.reduceAdd, Nat.reduceSub, Nat.reduceMul, Nat.reduceLeDiff, Nat.reduceLT, Nat.reduceBEq, Int.reduceToNat, Int.reduceLE, Int.reduceLT, Int.reduceEq, Int.reduceNe, Int.reduceAdd, Int.reduceSub, Int.reduceNeg, Int.toNat_natCast, reduceCtorEq, reduceIte, Nat.lt_irrefl, and_self, not_false_eq_true, not_true_eq_false, nO, nM, nV, nF, nL, Val.v, Val.row, Val.none, initSl]

structure Op where
  kind : Int
  r : Int
  name : List UInt8
  v : Val
def Op.row (o : Op) : List V := .int .i64 o.kind :: .int .i64 o.r :: .str o.name :: o.v.row

theorem val_of {vs : List V} (h : Typed Try.prog 29 vs) : ∃ v : Val, vs = v.row := by
  obtain ⟨_, _, rfl, h1, _, _, rfl, h2, _, _, rfl, h3, _, _, rfl, h4, rfl⟩ := h.fields Try.underlying29
  obtain ⟨k, rfl, _⟩ := h1.int_inv Try.underlying3
  obtain ⟨_, _, rfl, h5, _, _, rfl, h6, rfl⟩ := h2.fields Try.underlying27
  obtain ⟨p, rfl, _⟩ := h5.int_inv Try.underlying3
  obtain ⟨q, rfl, _⟩ := h6.int_inv Try.underlying3
  obtain ⟨s, rfl, _⟩ := h3.str_inv Try.underlying9
  obtain ⟨r, rfl, _⟩ := h4.int_inv Try.underlying3
  exact ⟨⟨k, p, q, s, r⟩, rfl⟩
theorem op_of {vs : List V} (h : Typed Try.prog 45 vs) : ∃ o : Op, vs = o.row := by
  obtain ⟨_, _, rfl, h1, _, _, rfl, h2, _, _, rfl, h3, _, _, rfl, h4, rfl⟩ := h.fields Try.underlying45
  obtain ⟨k, rfl, _⟩ := h1.int_inv Try.underlying3
  obtain ⟨r, rfl, _⟩ := h2.int_inv Try.underlying3
  obtain ⟨s, rfl, _⟩ := h3.str_inv Try.underlying9
  obtain ⟨v, rfl⟩ := val_of h4
  exact ⟨⟨k, r, s, v⟩, by simp [Op.row]⟩

theorem nil_pure (o : Op) : Pure Try.prog 9 [.agg o.row] (.bool true) := by
  refine Pure.of 0 (CallS.enter scriptinglaw18_RegistryNil_ok (Nat.le_of_ble_eq_true rfl) (Run.go 100 ?_))
  simp -implicitDefEqProofs only [go_sem, Nat.reduceEqDiff, Nat.reduceAdd, Nat.reduceSub, Nat.reduceMul, Nat.reduceLeDiff, Nat.reduceLT, Nat.reduceBEq, Int.reduceToNat, Int.reduceLE, Int.reduceLT, Int.reduceEq, Int.reduceNe, Int.reduceAdd, Int.reduceSub, Int.reduceNeg, Int.toNat_natCast, reduceCtorEq, reduceIte, Nat.lt_irrefl, and_self, not_false_eq_true, not_true_eq_false, nO, nM, nV, nF, nL, Val.v, Val.row, Val.none, initSl, Op.row]
  refine CallS.pureF (nref o.v) (by simp -implicitDefEqProofs only [go_sem, Nat.reduceEqDiff, Nat.reduceAdd, Nat.reduceSub, Nat.reduceMul, Nat.reduceLeDiff, Nat.reduceLT, Nat.reduceBEq, Int.reduceToNat, Int.reduceLE, Int.reduceLT, Int.reduceEq, Int.reduceNe, Int.reduceAdd, Int.reduceSub, Int.reduceNeg, Int.toNat_natCast, reduceCtorEq, reduceIte, Nat.lt_irrefl, and_self, not_false_eq_true, not_true_eq_false, nO, nM, nV, nF, nL, Val.v, Val.row, Val.none]) ?_
  simp -implicitDefEqProofs only [go_sem, Nat.reduceEqDiff, Nat.reduceAdd, Nat.reduceSub, Nat.reduceMul, Nat.reduceLeDiff, Nat.reduceLT, Nat.reduceBEq, Int.reduceToNat, Int.reduceLE, Int.reduceLT, Int.reduceEq, Int.reduceNe, Int.reduceAdd, Int.reduceSub, Int.reduceNeg, Int.toNat_natCast, reduceCtorEq, reduceIte, Nat.lt_irrefl, and_self, not_false_eq_true, not_true_eq_false, nO, nM, nV, nF, nL, Val.v, Val.row, Val.none]
  refine CallS.pureF (nvalue o.r) (by simp -implicitDefEqProofs only [go_sem, Nat.reduceEqDiff, Nat.reduceAdd, Nat.reduceSub, Nat.reduceMul, Nat.reduceLeDiff, Nat.reduceLT, Nat.reduceBEq, Int.reduceToNat, Int.reduceLE, Int.reduceLT, Int.reduceEq, Int.reduceNe, Int.reduceAdd, Int.reduceSub, Int.reduceNeg, Int.toNat_natCast, reduceCtorEq, reduceIte, Nat.lt_irrefl, and_self, not_false_eq_true, not_true_eq_false, nO, nM, nV, nF, nL, Val.v, Val.row, Val.none]) ?_
  simp -implicitDefEqProofs only [go_sem, Nat.reduceEqDiff, Nat.reduceAdd, Nat.reduceSub, Nat.reduceMul, Nat.reduceLeDiff, Nat.reduceLT, Nat.reduceBEq, Int.reduceToNat, Int.reduceLE, Int.reduceLT, Int.reduceEq, Int.reduceNe, Int.reduceAdd, Int.reduceSub, Int.reduceNeg, Int.toNat_natCast, reduceCtorEq, reduceIte, Nat.lt_irrefl, and_self, not_false_eq_true, not_true_eq_false, nO, nM, nV, nF, nL, Val.v, Val.row, Val.none]
  refine CallS.pureF (nfind o.name) (by simp -implicitDefEqProofs only [go_sem, Nat.reduceEqDiff, Nat.reduceAdd, Nat.reduceSub, Nat.reduceMul, Nat.reduceLeDiff, Nat.reduceLT, Nat.reduceBEq, Int.reduceToNat, Int.reduceLE, Int.reduceLT, Int.reduceEq, Int.reduceNe, Int.reduceAdd, Int.reduceSub, Int.reduceNeg, Int.toNat_natCast, reduceCtorEq, reduceIte, Nat.lt_irrefl, and_self, not_false_eq_true, not_true_eq_false, nO, nM, nV, nF, nL, Val.v, Val.row, Val.none]) ?_
  simp -implicitDefEqProofs only [go_sem, Nat.reduceEqDiff, Nat.reduceAdd, Nat.reduceSub, Nat.reduceMul, Nat.reduceLeDiff, Nat.reduceLT, Nat.reduceBEq, Int.reduceToNat, Int.reduceLE, Int.reduceLT, Int.reduceEq, Int.reduceNe, Int.reduceAdd, Int.reduceSub, Int.reduceNeg, Int.toNat_natCast, reduceCtorEq, reduceIte, Nat.lt_irrefl, and_self, not_false_eq_true, not_true_eq_false, nO, nM, nV, nF, nL, Val.v, Val.row, Val.none]
  refine CallS.pureF (nunref o.r) (by simp -implicitDefEqProofs only [go_sem, Nat.reduceEqDiff, Nat.reduceAdd, Nat.reduceSub, Nat.reduceMul, Nat.reduceLeDiff, Nat.reduceLT, Nat.reduceBEq, Int.reduceToNat, Int.reduceLE, Int.reduceLT, Int.reduceEq, Int.reduceNe, Int.reduceAdd, Int.reduceSub, Int.reduceNeg, Int.toNat_natCast, reduceCtorEq, reduceIte, Nat.lt_irrefl, and_self, not_false_eq_true, not_true_eq_false, nO, nM, nV, nF, nL, Val.v, Val.row, Val.none]) ?_
  simp -implicitDefEqProofs only [go_sem, Nat.reduceEqDiff, Nat.reduceAdd, Nat.reduceSub, Nat.reduceMul, Nat.reduceLeDiff, Nat.reduceLT, Nat.reduceBEq, Int.reduceToNat, Int.reduceLE, Int.reduceLT, Int.reduceEq, Int.reduceNe, Int.reduceAdd, Int.reduceSub, Int.reduceNeg, Int.toNat_natCast, reduceCtorEq, reduceIte, Nat.lt_irrefl, and_self, not_false_eq_true, not_true_eq_false, nO, nM, nV, nF, nL, Val.v, Val.row, Val.none]
  refine CallS.pureF (nput o.name o.v) (by simp -implicitDefEqProofs only [go_sem, Nat.reduceEqDiff, Nat.reduceAdd, Nat.reduceSub, Nat.reduceMul, Nat.reduceLeDiff, Nat.reduceLT, Nat.reduceBEq, Int.reduceToNat, Int.reduceLE, Int.reduceLT, Int.reduceEq, Int.reduceNe, Int.reduceAdd, Int.reduceSub, Int.reduceNeg, Int.toNat_natCast, reduceCtorEq, reduceIte, Nat.lt_irrefl, and_self, not_false_eq_true, not_true_eq_false, nO, nM, nV, nF, nL, Val.v, Val.row, Val.none]) ?_
  simp -implicitDefEqProofs only [go_sem, Nat.reduceEqDiff, Nat.reduceAdd, Nat.reduceSub, Nat.reduceMul, Nat.reduceLeDiff, Nat.reduceLT, Nat.reduceBEq, Int.reduceToNat, Int.reduceLE, Int.reduceLT, Int.reduceEq, Int.reduceNe, Int.reduceAdd, Int.reduceSub, Int.reduceNeg, Int.toNat_natCast, reduceCtorEq, reduceIte, Nat.lt_irrefl, and_self, not_false_eq_true, not_true_eq_false, nO, nM, nV, nF, nL, Val.v, Val.row, Val.none]
  refine CallS.pureF nlen (by simp -implicitDefEqProofs only [go_sem, Nat.reduceEqDiff, Nat.reduceAdd, Nat.reduceSub, Nat.reduceMul, Nat.reduceLeDiff, Nat.reduceLT, Nat.reduceBEq, Int.reduceToNat, Int.reduceLE, Int.reduceLT, Int.reduceEq, Int.reduceNe, Int.reduceAdd, Int.reduceSub, Int.reduceNeg, Int.toNat_natCast, reduceCtorEq, reduceIte, Nat.lt_irrefl, and_self, not_false_eq_true, not_true_eq_false, nO, nM, nV, nF, nL, Val.v, Val.row, Val.none]) ?_
  simp -implicitDefEqProofs only [go_sem, Nat.reduceEqDiff, Nat.reduceAdd, Nat.reduceSub, Nat.reduceMul, Nat.reduceLeDiff, Nat.reduceLT, Nat.reduceBEq, Int.reduceToNat, Int.reduceLE, Int.reduceLT, Int.reduceEq, Int.reduceNe, Int.reduceAdd, Int.reduceSub, Int.reduceNeg, Int.toNat_natCast, reduceCtorEq, reduceIte, Nat.lt_irrefl, and_self, not_false_eq_true, not_true_eq_false, nO, nM, nV, nF, nL, Val.v, Val.row, Val.none]
  refine CallS.pureF nroots (by simp -implicitDefEqProofs only [go_sem, Nat.reduceEqDiff, Nat.reduceAdd, Nat.reduceSub, Nat.reduceMul, Nat.reduceLeDiff, Nat.reduceLT, Nat.reduceBEq, Int.reduceToNat, Int.reduceLE, Int.reduceLT, Int.reduceEq, Int.reduceNe, Int.reduceAdd, Int.reduceSub, Int.reduceNeg, Int.toNat_natCast, reduceCtorEq, reduceIte, Nat.lt_irrefl, and_self, not_false_eq_true, not_true_eq_false, nO, nM, nV, nF, nL, Val.v, Val.row, Val.none]) ?_
  simp -implicitDefEqProofs only [go_sem, Nat.reduceEqDiff, Nat.reduceAdd, Nat.reduceSub, Nat.reduceMul, Nat.reduceLeDiff, Nat.reduceLT, Nat.reduceBEq, Int.reduceToNat, Int.reduceLE, Int.reduceLT, Int.reduceEq, Int.reduceNe, Int.reduceAdd, Int.reduceSub, Int.reduceNeg, Int.toNat_natCast, reduceCtorEq, reduceIte, Nat.lt_irrefl, and_self, not_false_eq_true, not_true_eq_false, nO, nM, nV, nF, nL, Val.v, Val.row, Val.none]
  refine ⟨fun _ => ?_, fun h => (h rfl).elim⟩
  refine CallS.pureF lives_pure (by simp -implicitDefEqProofs only [go_sem, Nat.reduceEqDiff, Nat.reduceAdd, Nat.reduceSub, Nat.reduceMul, Nat.reduceLeDiff, Nat.reduceLT, Nat.reduceBEq, Int.reduceToNat, Int.reduceLE, Int.reduceLT, Int.reduceEq, Int.reduceNe, Int.reduceAdd, Int.reduceSub, Int.reduceNeg, Int.toNat_natCast, reduceCtorEq, reduceIte, Nat.lt_irrefl, and_self, not_false_eq_true, not_true_eq_false, nO, nM, nV, nF, nL, Val.v, Val.row, Val.none]) ?_
  simp -implicitDefEqProofs only [go_sem, Nat.reduceEqDiff, Nat.reduceAdd, Nat.reduceSub, Nat.reduceMul, Nat.reduceLeDiff, Nat.reduceLT, Nat.reduceBEq, Int.reduceToNat, Int.reduceLE, Int.reduceLT, Int.reduceEq, Int.reduceNe, Int.reduceAdd, Int.reduceSub, Int.reduceNeg, Int.toNat_natCast, reduceCtorEq, reduceIte, Nat.lt_irrefl, and_self, not_false_eq_true, not_true_eq_false, nO, nM, nV, nF, nL, Val.v, Val.row, Val.none]

theorem registryNil_args (vs : List V) (h : Typed Try.prog 45 vs) : Pure Try.prog 9 [.agg vs] (.bool true) := by
  obtain ⟨o, rfl⟩ := op_of h
  exact nil_pure o
end Go.Proofs.Ytnjgkcafmlmpcaa
