/-
  Registry: a value that is kept is returned for its reference until it is released. No condition.
-/
import Derived.Test.YtnjgkcafmlmpcaaMade
set_option linter.unusedVariables false
set_option linter.unusedSimpArgs false
set_option maxRecDepth 100000
set_option maxHeartbeats 0
namespace Go.Proofs.Ytnjgkcafmlmpcaa
open Go.Abs
attribute [local irreducible] CallS Run
-- EV: RegH, RefH, nO, nM, nV, nF, nL, rO, rL, rF, rN, Val.v, Val.row, irow, prow, Val.none

/-- The value is held at a reference. -/
def Holds (R : Reg) (z : Int) (v : Val) : Prop := 1 ≤ z ∧ z ≤ R.vals.length ∧ R.vals[(z - 1).toNat]? = some v

theorem Holds.step {R : Reg} {z : Int} {v : Val} (hok : R.OK) (h : Holds R z v) (hv : v.k ≠ 0) (o : Op) (ho : o.kind ≠ 1) : Holds (R.step o) z v := by
  obtain ⟨h1, h2, h3⟩ := h
  unfold Reg.step Reg.ref Reg.put
  repeat' split
  all_goals try exact ⟨h1, h2, h3⟩
  · refine ⟨h1, by simp; omega, ?_⟩
    rw [List.getElem?_append_left (by omega)]; exact h3
  · rename_i hne
    have hlast : R.free.getLastD 0 ∈ R.free := by
      rw [List.getLastD_eq_getLast?, List.getLast?_eq_some_getLast hne]
      exact List.getLast_mem hne
    obtain ⟨q1, q2, q3⟩ := hok.inr _ hlast
    refine ⟨h1, by simpa using h2, ?_⟩
    have : ¬ (R.free.getLastD 0 - 1).toNat = (z - 1).toNat := by
      intro e
      rw [e] at q3
      exact hv (q3 v h3)
    rw [List.getElem?_set_ne this]; exact h3

theorem Reg.ref_in {R : Reg} (hok : R.OK) {v : Val} (hv : vValid v.k v.p v.q v.s v.r = true) (hk : ¬ v.k = 0) (hl : R.vals.length < 1000) :
    ∃ z R', R.ref v = (z, 0, R') ∧ Holds R' z v ∧ R'.OK ∧ R'.len = R.len + 1 := by
  have h1 := hok.ref v
  have h2 := hok.free
  by_cases hf : R.free = []
  · have e := Reg.ref4 (R := R) (v := v) (by rw [hv]; rfl) hk (by rw [hf]; simp; omega) hf
    rw [e] at h1
    refine ⟨_, _, e, ⟨by omega, by simp, ?_⟩, h1, by simp [Reg.len]; omega⟩
    simp
  · have hpos := List.length_pos_iff.2 hf
    have hz : R.free[R.free.length - 1]? = some R.free[R.free.length - 1] := by simp
    have e := Reg.ref5 (R := R) (v := v) (by rw [hv]; rfl) hk (by omega) hz
    obtain ⟨q1, q2, _⟩ := hok.inr _ (List.mem_of_getElem? hz)
    rw [e] at h1
    refine ⟨_, _, e, ⟨q1, by simpa using q2, ?_⟩, h1, by simp [Reg.len]; omega⟩
    exact List.getElem?_set_self (by omega)

theorem ops_sub (l : List Op) : (l.map Op.row).map (fun r => r.map (V.sub lost)) = l.map Op.row := by
  rw [List.map_map]
  refine List.map_congr_left fun o _ => ?_
  simp [Op.row, Val.row, V.sub]

theorem keeps_pure (l m : List Op) (hl : l.length ≤ maxLen) (hm : m.length ≤ maxLen) (v : Val) :
    Pure Try.prog 4 [.isl (l.map Op.row), v.v, .isl (m.map Op.row)] (.bool true) := by
  refine Pure.of 0 (CallS.enter scriptinglaw18_RegistryKeeps_ok (Nat.le_of_ble_eq_true rfl) (Run.go 100 ?_))
  have live : ∀ h n, CallS Try.prog 11 [] h n (fun r h' n' => r = .bool true ∧ h' = h) := fun h n => by
    refine CallS.pureF lives_pure (by simp -implicitDefEqProofs only [go_sem, Nat.reduceEqDiff, Nat.reduceAdd, Nat.reduceSub, Nat.reduceMul, Nat.reduceLeDiff, Nat.reduceLT, Nat.reduceBEq, Int.reduceToNat, Int.reduceLE, Int.reduceLT, Int.reduceEq, Int.reduceNe, Int.reduceAdd, Int.reduceSub, Int.reduceNeg, Int.toNat_natCast, reduceCtorEq, reduceIte, Nat.lt_irrefl, and_self, not_false_eq_true, not_true_eq_false, RegH, RefH, nO, nM, nV, nF, nL, rO, rL, rF, rN, Val.v, Val.row, irow, prow, Val.none]) ?_
    simp -implicitDefEqProofs only [go_sem, Nat.reduceEqDiff, Nat.reduceAdd, Nat.reduceSub, Nat.reduceMul, Nat.reduceLeDiff, Nat.reduceLT, Nat.reduceBEq, Int.reduceToNat, Int.reduceLE, Int.reduceLT, Int.reduceEq, Int.reduceNe, Int.reduceAdd, Int.reduceSub, Int.reduceNeg, Int.toNat_natCast, reduceCtorEq, reduceIte, Nat.lt_irrefl, and_self, not_false_eq_true, not_true_eq_false, RegH, RefH, nO, nM, nV, nF, nL, rO, rL, rF, rN, Val.v, Val.row, irow, prow, Val.none]
  simp -implicitDefEqProofs only [go_sem, Nat.reduceEqDiff, Nat.reduceAdd, Nat.reduceSub, Nat.reduceMul, Nat.reduceLeDiff, Nat.reduceLT, Nat.reduceBEq, Int.reduceToNat, Int.reduceLE, Int.reduceLT, Int.reduceEq, Int.reduceNe, Int.reduceAdd, Int.reduceSub, Int.reduceNeg, Int.toNat_natCast, reduceCtorEq, reduceIte, Nat.lt_irrefl, and_self, not_false_eq_true, not_true_eq_false, RegH, RefH, nO, nM, nV, nF, nL, rO, rL, rF, rN, Val.v, Val.row, irow, prow, Val.none, initSl]
  refine CallS.pureF (large_pure l hl) (by simp -implicitDefEqProofs only [go_sem, Nat.reduceEqDiff, Nat.reduceAdd, Nat.reduceSub, Nat.reduceMul, Nat.reduceLeDiff, Nat.reduceLT, Nat.reduceBEq, Int.reduceToNat, Int.reduceLE, Int.reduceLT, Int.reduceEq, Int.reduceNe, Int.reduceAdd, Int.reduceSub, Int.reduceNeg, Int.toNat_natCast, reduceCtorEq, reduceIte, Nat.lt_irrefl, and_self, not_false_eq_true, not_true_eq_false, RegH, RefH, nO, nM, nV, nF, nL, rO, rL, rF, rN, Val.v, Val.row, irow, prow, Val.none]; exact ops_sub l) ?_
  simp -implicitDefEqProofs only [go_sem, Nat.reduceEqDiff, Nat.reduceAdd, Nat.reduceSub, Nat.reduceMul, Nat.reduceLeDiff, Nat.reduceLT, Nat.reduceBEq, Int.reduceToNat, Int.reduceLE, Int.reduceLT, Int.reduceEq, Int.reduceNe, Int.reduceAdd, Int.reduceSub, Int.reduceNeg, Int.toNat_natCast, reduceCtorEq, reduceIte, Nat.lt_irrefl, and_self, not_false_eq_true, not_true_eq_false, RegH, RefH, nO, nM, nV, nF, nL, rO, rL, rF, rN, Val.v, Val.row, irow, prow, Val.none]
  refine ⟨fun c1 => ?_, fun c1 => ?_⟩
  rotate_left
  · refine CallS.pureF lives_pure (by simp -implicitDefEqProofs only [go_sem, Nat.reduceEqDiff, Nat.reduceAdd, Nat.reduceSub, Nat.reduceMul, Nat.reduceLeDiff, Nat.reduceLT, Nat.reduceBEq, Int.reduceToNat, Int.reduceLE, Int.reduceLT, Int.reduceEq, Int.reduceNe, Int.reduceAdd, Int.reduceSub, Int.reduceNeg, Int.toNat_natCast, reduceCtorEq, reduceIte, Nat.lt_irrefl, and_self, not_false_eq_true, not_true_eq_false, RegH, RefH, nO, nM, nV, nF, nL, rO, rL, rF, rN, Val.v, Val.row, irow, prow, Val.none]) ?_
    simp -implicitDefEqProofs only [go_sem, Nat.reduceEqDiff, Nat.reduceAdd, Nat.reduceSub, Nat.reduceMul, Nat.reduceLeDiff, Nat.reduceLT, Nat.reduceBEq, Int.reduceToNat, Int.reduceLE, Int.reduceLT, Int.reduceEq, Int.reduceNe, Int.reduceAdd, Int.reduceSub, Int.reduceNeg, Int.toNat_natCast, reduceCtorEq, reduceIte, Nat.lt_irrefl, and_self, not_false_eq_true, not_true_eq_false, RegH, RefH, nO, nM, nV, nF, nL, rO, rL, rF, rN, Val.v, Val.row, irow, prow, Val.none]
  refine CallS.pureF (large_pure m hm) (by simp -implicitDefEqProofs only [go_sem, Nat.reduceEqDiff, Nat.reduceAdd, Nat.reduceSub, Nat.reduceMul, Nat.reduceLeDiff, Nat.reduceLT, Nat.reduceBEq, Int.reduceToNat, Int.reduceLE, Int.reduceLT, Int.reduceEq, Int.reduceNe, Int.reduceAdd, Int.reduceSub, Int.reduceNeg, Int.toNat_natCast, reduceCtorEq, reduceIte, Nat.lt_irrefl, and_self, not_false_eq_true, not_true_eq_false, RegH, RefH, nO, nM, nV, nF, nL, rO, rL, rF, rN, Val.v, Val.row, irow, prow, Val.none]; exact ops_sub m) ?_
  simp -implicitDefEqProofs only [go_sem, Nat.reduceEqDiff, Nat.reduceAdd, Nat.reduceSub, Nat.reduceMul, Nat.reduceLeDiff, Nat.reduceLT, Nat.reduceBEq, Int.reduceToNat, Int.reduceLE, Int.reduceLT, Int.reduceEq, Int.reduceNe, Int.reduceAdd, Int.reduceSub, Int.reduceNeg, Int.toNat_natCast, reduceCtorEq, reduceIte, Nat.lt_irrefl, and_self, not_false_eq_true, not_true_eq_false, RegH, RefH, nO, nM, nV, nF, nL, rO, rL, rF, rN, Val.v, Val.row, irow, prow, Val.none]
  refine ⟨fun c2 => ?_, fun c2 => ?_⟩
  · refine CallS.pureF lives_pure (by simp -implicitDefEqProofs only [go_sem, Nat.reduceEqDiff, Nat.reduceAdd, Nat.reduceSub, Nat.reduceMul, Nat.reduceLeDiff, Nat.reduceLT, Nat.reduceBEq, Int.reduceToNat, Int.reduceLE, Int.reduceLT, Int.reduceEq, Int.reduceNe, Int.reduceAdd, Int.reduceSub, Int.reduceNeg, Int.toNat_natCast, reduceCtorEq, reduceIte, Nat.lt_irrefl, and_self, not_false_eq_true, not_true_eq_false, RegH, RefH, nO, nM, nV, nF, nL, rO, rL, rF, rN, Val.v, Val.row, irow, prow, Val.none]) ?_
    simp -implicitDefEqProofs only [go_sem, Nat.reduceEqDiff, Nat.reduceAdd, Nat.reduceSub, Nat.reduceMul, Nat.reduceLeDiff, Nat.reduceLT, Nat.reduceBEq, Int.reduceToNat, Int.reduceLE, Int.reduceLT, Int.reduceEq, Int.reduceNe, Int.reduceAdd, Int.reduceSub, Int.reduceNeg, Int.toNat_natCast, reduceCtorEq, reduceIte, Nat.lt_irrefl, and_self, not_false_eq_true, not_true_eq_false, RegH, RefH, nO, nM, nV, nF, nL, rO, rL, rF, rN, Val.v, Val.row, irow, prow, Val.none]
  refine CallS.at [] [0] (made_c l (not_large c1) _) rfl rfl ?_
  rintro r h' n1 hn1 ⟨so, sm, sv, sf, so2, sl, sf2, sn, rfl, rfl⟩
  have hok := after_ok l
  have hvl := after_vals l
  have hll := not_large c1
  have hml := not_large c2
  generalize after l = R at *
  simp -implicitDefEqProofs only [go_sem, Nat.reduceEqDiff, Nat.reduceAdd, Nat.reduceSub, Nat.reduceMul, Nat.reduceLeDiff, Nat.reduceLT, Nat.reduceBEq, Int.reduceToNat, Int.reduceLE, Int.reduceLT, Int.reduceEq, Int.reduceNe, Int.reduceAdd, Int.reduceSub, Int.reduceNeg, Int.toNat_natCast, reduceCtorEq, reduceIte, Nat.lt_irrefl, and_self, not_false_eq_true, not_true_eq_false, RegH, RefH, nO, nM, nV, nF, nL, rO, rL, rF, rN, Val.v, Val.row, irow, prow, Val.none]
  refine CallS.at [0, 1, 2, 3] [4, 5, 6, 7, 8] (len_c R so sm sv sf _ hok) rfl rfl ?_
  rintro r h' n2 hn2 ⟨rfl, rfl⟩
  simp -implicitDefEqProofs only [go_sem, Nat.reduceEqDiff, Nat.reduceAdd, Nat.reduceSub, Nat.reduceMul, Nat.reduceLeDiff, Nat.reduceLT, Nat.reduceBEq, Int.reduceToNat, Int.reduceLE, Int.reduceLT, Int.reduceEq, Int.reduceNe, Int.reduceAdd, Int.reduceSub, Int.reduceNeg, Int.toNat_natCast, reduceCtorEq, reduceIte, Nat.lt_irrefl, and_self, not_false_eq_true, not_true_eq_false, RegH, RefH, nO, nM, nV, nF, nL, rO, rL, rF, rN, Val.v, Val.row, irow, prow, Val.none]
  refine CallS.at [0, 1, 2, 3] [4, 5, 6, 7, 8] (ref_c R so sm sv sf _ v hok) rfl rfl ?_
  rintro r h' n3 hn3 ⟨sv, sf, rfl, rfl⟩
  cases hvv : vValid v.k v.p v.q v.s v.r with
  | false =>
    rw [Reg.ref1 (by rw [hvv]; rfl)]
    simp -implicitDefEqProofs only [go_sem, Nat.reduceEqDiff, Nat.reduceAdd, Nat.reduceSub, Nat.reduceMul, Nat.reduceLeDiff, Nat.reduceLT, Nat.reduceBEq, Int.reduceToNat, Int.reduceLE, Int.reduceLT, Int.reduceEq, Int.reduceNe, Int.reduceAdd, Int.reduceSub, Int.reduceNeg, Int.toNat_natCast, reduceCtorEq, reduceIte, Nat.lt_irrefl, and_self, not_false_eq_true, not_true_eq_false, RegH, RefH, nO, nM, nV, nF, nL, rO, rL, rF, rN, Val.v, Val.row, irow, prow, Val.none]
    refine CallS.pureF (rValid_pure _ _ _ _ _) (by simp -implicitDefEqProofs only [go_sem, Nat.reduceEqDiff, Nat.reduceAdd, Nat.reduceSub, Nat.reduceMul, Nat.reduceLeDiff, Nat.reduceLT, Nat.reduceBEq, Int.reduceToNat, Int.reduceLE, Int.reduceLT, Int.reduceEq, Int.reduceNe, Int.reduceAdd, Int.reduceSub, Int.reduceNeg, Int.toNat_natCast, reduceCtorEq, reduceIte, Nat.lt_irrefl, and_self, not_false_eq_true, not_true_eq_false, RegH, RefH, nO, nM, nV, nF, nL, rO, rL, rF, rN, Val.v, Val.row, irow, prow, Val.none]) ?_
    simp -implicitDefEqProofs only [go_sem, Nat.reduceEqDiff, Nat.reduceAdd, Nat.reduceSub, Nat.reduceMul, Nat.reduceLeDiff, Nat.reduceLT, Nat.reduceBEq, Int.reduceToNat, Int.reduceLE, Int.reduceLT, Int.reduceEq, Int.reduceNe, Int.reduceAdd, Int.reduceSub, Int.reduceNeg, Int.toNat_natCast, reduceCtorEq, reduceIte, Nat.lt_irrefl, and_self, not_false_eq_true, not_true_eq_false, RegH, RefH, nO, nM, nV, nF, nL, rO, rL, rF, rN, Val.v, Val.row, irow, prow, Val.none, hvv]
    refine CallS.at [0, 1, 2, 3] [4, 5, 6, 7, 8] (len_c R so sm sv sf _ hok) rfl rfl ?_
    rintro r h' n4 hn4 ⟨rfl, rfl⟩
    simp -implicitDefEqProofs only [go_sem, Nat.reduceEqDiff, Nat.reduceAdd, Nat.reduceSub, Nat.reduceMul, Nat.reduceLeDiff, Nat.reduceLT, Nat.reduceBEq, Int.reduceToNat, Int.reduceLE, Int.reduceLT, Int.reduceEq, Int.reduceNe, Int.reduceAdd, Int.reduceSub, Int.reduceNeg, Int.toNat_natCast, reduceCtorEq, reduceIte, Nat.lt_irrefl, and_self, not_false_eq_true, not_true_eq_false, RegH, RefH, nO, nM, nV, nF, nL, rO, rL, rF, rN, Val.v, Val.row, irow, prow, Val.none]
    refine CallS.pureF lives_pure (by simp -implicitDefEqProofs only [go_sem, Nat.reduceEqDiff, Nat.reduceAdd, Nat.reduceSub, Nat.reduceMul, Nat.reduceLeDiff, Nat.reduceLT, Nat.reduceBEq, Int.reduceToNat, Int.reduceLE, Int.reduceLT, Int.reduceEq, Int.reduceNe, Int.reduceAdd, Int.reduceSub, Int.reduceNeg, Int.toNat_natCast, reduceCtorEq, reduceIte, Nat.lt_irrefl, and_self, not_false_eq_true, not_true_eq_false, RegH, RefH, nO, nM, nV, nF, nL, rO, rL, rF, rN, Val.v, Val.row, irow, prow, Val.none]) ?_
    simp -implicitDefEqProofs only [go_sem, Nat.reduceEqDiff, Nat.reduceAdd, Nat.reduceSub, Nat.reduceMul, Nat.reduceLeDiff, Nat.reduceLT, Nat.reduceBEq, Int.reduceToNat, Int.reduceLE, Int.reduceLT, Int.reduceEq, Int.reduceNe, Int.reduceAdd, Int.reduceSub, Int.reduceNeg, Int.toNat_natCast, reduceCtorEq, reduceIte, Nat.lt_irrefl, and_self, not_false_eq_true, not_true_eq_false, RegH, RefH, nO, nM, nV, nF, nL, rO, rL, rF, rN, Val.v, Val.row, irow, prow, Val.none]
  | true =>
  by_cases hk : v.k = 0
  · rw [Reg.ref2 (by rw [hvv]; rfl) hk]
    simp -implicitDefEqProofs only [go_sem, Nat.reduceEqDiff, Nat.reduceAdd, Nat.reduceSub, Nat.reduceMul, Nat.reduceLeDiff, Nat.reduceLT, Nat.reduceBEq, Int.reduceToNat, Int.reduceLE, Int.reduceLT, Int.reduceEq, Int.reduceNe, Int.reduceAdd, Int.reduceSub, Int.reduceNeg, Int.toNat_natCast, reduceCtorEq, reduceIte, Nat.lt_irrefl, and_self, not_false_eq_true, not_true_eq_false, RegH, RefH, nO, nM, nV, nF, nL, rO, rL, rF, rN, Val.v, Val.row, irow, prow, Val.none]
    refine CallS.pureF (rValid_pure _ _ _ _ _) (by simp -implicitDefEqProofs only [go_sem, Nat.reduceEqDiff, Nat.reduceAdd, Nat.reduceSub, Nat.reduceMul, Nat.reduceLeDiff, Nat.reduceLT, Nat.reduceBEq, Int.reduceToNat, Int.reduceLE, Int.reduceLT, Int.reduceEq, Int.reduceNe, Int.reduceAdd, Int.reduceSub, Int.reduceNeg, Int.toNat_natCast, reduceCtorEq, reduceIte, Nat.lt_irrefl, and_self, not_false_eq_true, not_true_eq_false, RegH, RefH, nO, nM, nV, nF, nL, rO, rL, rF, rN, Val.v, Val.row, irow, prow, Val.none]) ?_
    rw [hk] at hvv
    simp -implicitDefEqProofs only [go_sem, Nat.reduceEqDiff, Nat.reduceAdd, Nat.reduceSub, Nat.reduceMul, Nat.reduceLeDiff, Nat.reduceLT, Nat.reduceBEq, Int.reduceToNat, Int.reduceLE, Int.reduceLT, Int.reduceEq, Int.reduceNe, Int.reduceAdd, Int.reduceSub, Int.reduceNeg, Int.toNat_natCast, reduceCtorEq, reduceIte, Nat.lt_irrefl, and_self, not_false_eq_true, not_true_eq_false, RegH, RefH, nO, nM, nV, nF, nL, rO, rL, rF, rN, Val.v, Val.row, irow, prow, Val.none, hvv, hk]
    refine CallS.at [0, 1, 2, 3] [4, 5, 6, 7, 8] (len_c R so sm sv sf _ hok) rfl rfl ?_
    rintro r h' n4 hn4 ⟨rfl, rfl⟩
    simp -implicitDefEqProofs only [go_sem, Nat.reduceEqDiff, Nat.reduceAdd, Nat.reduceSub, Nat.reduceMul, Nat.reduceLeDiff, Nat.reduceLT, Nat.reduceBEq, Int.reduceToNat, Int.reduceLE, Int.reduceLT, Int.reduceEq, Int.reduceNe, Int.reduceAdd, Int.reduceSub, Int.reduceNeg, Int.toNat_natCast, reduceCtorEq, reduceIte, Nat.lt_irrefl, and_self, not_false_eq_true, not_true_eq_false, RegH, RefH, nO, nM, nV, nF, nL, rO, rL, rF, rN, Val.v, Val.row, irow, prow, Val.none]
    refine CallS.pureF lives_pure (by simp -implicitDefEqProofs only [go_sem, Nat.reduceEqDiff, Nat.reduceAdd, Nat.reduceSub, Nat.reduceMul, Nat.reduceLeDiff, Nat.reduceLT, Nat.reduceBEq, Int.reduceToNat, Int.reduceLE, Int.reduceLT, Int.reduceEq, Int.reduceNe, Int.reduceAdd, Int.reduceSub, Int.reduceNeg, Int.toNat_natCast, reduceCtorEq, reduceIte, Nat.lt_irrefl, and_self, not_false_eq_true, not_true_eq_false, RegH, RefH, nO, nM, nV, nF, nL, rO, rL, rF, rN, Val.v, Val.row, irow, prow, Val.none]) ?_
    simp -implicitDefEqProofs only [go_sem, Nat.reduceEqDiff, Nat.reduceAdd, Nat.reduceSub, Nat.reduceMul, Nat.reduceLeDiff, Nat.reduceLT, Nat.reduceBEq, Int.reduceToNat, Int.reduceLE, Int.reduceLT, Int.reduceEq, Int.reduceNe, Int.reduceAdd, Int.reduceSub, Int.reduceNeg, Int.toNat_natCast, reduceCtorEq, reduceIte, Nat.lt_irrefl, and_self, not_false_eq_true, not_true_eq_false, RegH, RefH, nO, nM, nV, nF, nL, rO, rL, rF, rN, Val.v, Val.row, irow, prow, Val.none]
  obtain ⟨z, R1, he, hz, hok1, hlen⟩ := Reg.ref_in hok hvv hk (by omega)
  rw [he]
  simp -implicitDefEqProofs only [go_sem, Nat.reduceEqDiff, Nat.reduceAdd, Nat.reduceSub, Nat.reduceMul, Nat.reduceLeDiff, Nat.reduceLT, Nat.reduceBEq, Int.reduceToNat, Int.reduceLE, Int.reduceLT, Int.reduceEq, Int.reduceNe, Int.reduceAdd, Int.reduceSub, Int.reduceNeg, Int.toNat_natCast, reduceCtorEq, reduceIte, Nat.lt_irrefl, and_self, not_false_eq_true, not_true_eq_false, RegH, RefH, nO, nM, nV, nF, nL, rO, rL, rF, rN, Val.v, Val.row, irow, prow, Val.none]
  refine CallS.pureF (rValid_pure _ _ _ _ _) (by simp -implicitDefEqProofs only [go_sem, Nat.reduceEqDiff, Nat.reduceAdd, Nat.reduceSub, Nat.reduceMul, Nat.reduceLeDiff, Nat.reduceLT, Nat.reduceBEq, Int.reduceToNat, Int.reduceLE, Int.reduceLT, Int.reduceEq, Int.reduceNe, Int.reduceAdd, Int.reduceSub, Int.reduceNeg, Int.toNat_natCast, reduceCtorEq, reduceIte, Nat.lt_irrefl, and_self, not_false_eq_true, not_true_eq_false, RegH, RefH, nO, nM, nV, nF, nL, rO, rL, rF, rN, Val.v, Val.row, irow, prow, Val.none]) ?_
  simp -implicitDefEqProofs only [go_sem, Nat.reduceEqDiff, Nat.reduceAdd, Nat.reduceSub, Nat.reduceMul, Nat.reduceLeDiff, Nat.reduceLT, Nat.reduceBEq, Int.reduceToNat, Int.reduceLE, Int.reduceLT, Int.reduceEq, Int.reduceNe, Int.reduceAdd, Int.reduceSub, Int.reduceNeg, Int.toNat_natCast, reduceCtorEq, reduceIte, Nat.lt_irrefl, and_self, not_false_eq_true, not_true_eq_false, RegH, RefH, nO, nM, nV, nF, nL, rO, rL, rF, rN, Val.v, Val.row, irow, prow, Val.none, hvv, hk]
  have hz1 := hz.1
  have hz2 := hz.2.1
  refine ⟨fun q => ?_, fun q => by omega⟩
  refine CallS.at [0, 1, 2, 3] [4, 5, 6, 7, 8] (len_c R1 so sm sv sf _ hok1) rfl rfl ?_
  rintro r h' n4 hn4 ⟨rfl, rfl⟩
  simp -implicitDefEqProofs only [go_sem, Nat.reduceEqDiff, Nat.reduceAdd, Nat.reduceSub, Nat.reduceMul, Nat.reduceLeDiff, Nat.reduceLT, Nat.reduceBEq, Int.reduceToNat, Int.reduceLE, Int.reduceLT, Int.reduceEq, Int.reduceNe, Int.reduceAdd, Int.reduceSub, Int.reduceNeg, Int.toNat_natCast, reduceCtorEq, reduceIte, Nat.lt_irrefl, and_self, not_false_eq_true, not_true_eq_false, RegH, RefH, nO, nM, nV, nF, nL, rO, rL, rF, rN, Val.v, Val.row, irow, prow, Val.none, hlen]
  have hln : -9223372036854775808 ≤ R.len + 1 ∧ R.len + 1 ≤ 9223372036854775807 := by
    have := hok.vals
    have := hok.free
    have := hok.names
    unfold Reg.len
    omega
  refine ⟨hln, ?_⟩
  refine Run.rounds (fun (x : Nat × Reg × Nat × Nat × Nat) => ⟨[(13, .int .i64 (x.1 : Int)), (11, .int .i64 z), (7, .ptr nO so 0 0), (4, .ptr 40004 0 0 0), (2, .isl (m.map Op.row))],
      RegH so sm x.2.2.1 x.2.2.2.1 x.2.1 ++ [(40004, 0, .rows 5 [v.row])], x.2.2.2.2⟩)
    (fun x => x.1 ≤ m.length ∧ x.2.1.OK ∧ Holds x.2.1 z v) (fun x => m.length - x.1) (0, R1, sv, sf, n4) (by simp -implicitDefEqProofs only [go_sem, Nat.reduceEqDiff, Nat.reduceAdd, Nat.reduceSub, Nat.reduceMul, Nat.reduceLeDiff, Nat.reduceLT, Nat.reduceBEq, Int.reduceToNat, Int.reduceLE, Int.reduceLT, Int.reduceEq, Int.reduceNe, Int.reduceAdd, Int.reduceSub, Int.reduceNeg, Int.toNat_natCast, reduceCtorEq, reduceIte, Nat.lt_irrefl, and_self, not_false_eq_true, not_true_eq_false, RegH, RefH, nO, nM, nV, nF, nL, rO, rL, rF, rN, Val.v, Val.row, irow, prow, Val.none]; simp) ⟨Nat.zero_le _, hok1, hz⟩ ?_
  clear hz1 hz2 hln hn4 hn3 hn2 hn1 he hlen hz hok1
  rintro ⟨i, R, sv, sf, n⟩ ⟨hi, hok, hz⟩ ih
  dsimp only at hi hok hz ih ⊢
  refine Run.unf scriptinglaw18_RegistryKeeps_l0_eq (Run.go 100 ?_)
  simp -implicitDefEqProofs only [go_sem, Nat.reduceEqDiff, Nat.reduceAdd, Nat.reduceSub, Nat.reduceMul, Nat.reduceLeDiff, Nat.reduceLT, Nat.reduceBEq, Int.reduceToNat, Int.reduceLE, Int.reduceLT, Int.reduceEq, Int.reduceNe, Int.reduceAdd, Int.reduceSub, Int.reduceNeg, Int.toNat_natCast, reduceCtorEq, reduceIte, Nat.lt_irrefl, and_self, not_false_eq_true, not_true_eq_false, RegH, RefH, nO, nM, nV, nF, nL, rO, rL, rF, rN, Val.v, Val.row, irow, prow, Val.none]
  refine ⟨fun c => ?_, fun c => ?_⟩
  · refine ⟨by omega, by omega, oprows, by omega, fun x hx => ?_⟩
    simp -implicitDefEqProofs only [go_sem, Nat.reduceEqDiff, Nat.reduceAdd, Nat.reduceSub, Nat.reduceMul, Nat.reduceLeDiff, Nat.reduceLT, Nat.reduceBEq, Int.reduceToNat, Int.reduceLE, Int.reduceLT, Int.reduceEq, Int.reduceNe, Int.reduceAdd, Int.reduceSub, Int.reduceNeg, Int.toNat_natCast, reduceCtorEq, reduceIte, Nat.lt_irrefl, and_self, not_false_eq_true, not_true_eq_false, RegH, RefH, nO, nM, nV, nF, nL, rO, rL, rF, rN, Val.v, Val.row, irow, prow, Val.none, Op.row]
    have same : ∀ y, m[i]? = some y → y = x := fun y hy => by rw [hx] at hy; exact (Option.some.inj hy).symm
    refine ⟨fun c2 => ⟨?_, ?_, ?_⟩, fun c2 => ⟨by omega, ih _ (i + 1, R, sv, sf, n) ⟨by dsimp only; omega, hok, hz⟩ (by dsimp only; omega) (by simp -implicitDefEqProofs only [go_sem, Nat.reduceEqDiff, Nat.reduceAdd, Nat.reduceSub, Nat.reduceMul, Nat.reduceLeDiff, Nat.reduceLT, Nat.reduceBEq, Int.reduceToNat, Int.reduceLE, Int.reduceLT, Int.reduceEq, Int.reduceNe, Int.reduceAdd, Int.reduceSub, Int.reduceNeg, Int.toNat_natCast, reduceCtorEq, reduceIte, Nat.lt_irrefl, and_self, not_false_eq_true, not_true_eq_false, RegH, RefH, nO, nM, nV, nF, nL, rO, rL, rF, rN, Val.v, Val.row, irow, prow, Val.none]; simp)⟩⟩
    · refine ⟨by omega, by omega, oprows, by omega, fun y hy => ?_⟩
      obtain rfl := same y hy
      refine CallS.at [] [0, 1, 2, 3, 4] (rnew_c _) rfl rfl ?_
      rintro r h' n1 hn1 ⟨so2, sl, sf2, sn, rfl, rfl⟩
      simp -implicitDefEqProofs only [go_sem, Nat.reduceEqDiff, Nat.reduceAdd, Nat.reduceSub, Nat.reduceMul, Nat.reduceLeDiff, Nat.reduceLT, Nat.reduceBEq, Int.reduceToNat, Int.reduceLE, Int.reduceLT, Int.reduceEq, Int.reduceNe, Int.reduceAdd, Int.reduceSub, Int.reduceNeg, Int.toNat_natCast, reduceCtorEq, reduceIte, Nat.lt_irrefl, and_self, not_false_eq_true, not_true_eq_false, RegH, RefH, nO, nM, nV, nF, nL, rO, rL, rF, rN, Val.v, Val.row, irow, prow, Val.none]
      refine CallS.at [4, 5, 6, 7, 0, 1, 2, 3] [8] (step_c R ⟨[], [], []⟩ so sm sv sf so2 sl sf2 sn _ y hok .new) rfl rfl ?_
      rintro r h' n2 hn2 ⟨b, sv1, sf1, sl1, sf3, sn1, rfl, hb, rfl⟩
      simp -implicitDefEqProofs only [go_sem, Nat.reduceEqDiff, Nat.reduceAdd, Nat.reduceSub, Nat.reduceMul, Nat.reduceLeDiff, Nat.reduceLT, Nat.reduceBEq, Int.reduceToNat, Int.reduceLE, Int.reduceLT, Int.reduceEq, Int.reduceNe, Int.reduceAdd, Int.reduceSub, Int.reduceNeg, Int.toNat_natCast, reduceCtorEq, reduceIte, Nat.lt_irrefl, and_self, not_false_eq_true, not_true_eq_false, RegH, RefH, nO, nM, nV, nF, nL, rO, rL, rF, rN, Val.v, Val.row, irow, prow, Val.none]
      exact ⟨by omega, ih _ (i + 1, R.step y, sv1, sf1, n2) ⟨by dsimp only; omega, hok.step y, hz.step hok hk y c2⟩ (by dsimp only; omega) (by simp -implicitDefEqProofs only [go_sem, Nat.reduceEqDiff, Nat.reduceAdd, Nat.reduceSub, Nat.reduceMul, Nat.reduceLeDiff, Nat.reduceLT, Nat.reduceBEq, Int.reduceToNat, Int.reduceLE, Int.reduceLT, Int.reduceEq, Int.reduceNe, Int.reduceAdd, Int.reduceSub, Int.reduceNeg, Int.toNat_natCast, reduceCtorEq, reduceIte, Nat.lt_irrefl, and_self, not_false_eq_true, not_true_eq_false, RegH, RefH, nO, nM, nV, nF, nL, rO, rL, rF, rN, Val.v, Val.row, irow, prow, Val.none]; simp)⟩
    · refine ⟨by omega, by omega, oprows, ?_⟩
      refine CallS.at [] [0, 1, 2, 3, 4] (rnew_c _) rfl rfl ?_
      rintro r h' n1 hn1 ⟨so2, sl, sf2, sn, rfl, rfl⟩
      simp -implicitDefEqProofs only [go_sem, Nat.reduceEqDiff, Nat.reduceAdd, Nat.reduceSub, Nat.reduceMul, Nat.reduceLeDiff, Nat.reduceLT, Nat.reduceBEq, Int.reduceToNat, Int.reduceLE, Int.reduceLT, Int.reduceEq, Int.reduceNe, Int.reduceAdd, Int.reduceSub, Int.reduceNeg, Int.toNat_natCast, reduceCtorEq, reduceIte, Nat.lt_irrefl, and_self, not_false_eq_true, not_true_eq_false, RegH, RefH, nO, nM, nV, nF, nL, rO, rL, rF, rN, Val.v, Val.row, irow, prow, Val.none, Op.row]
      refine ⟨by omega, fun y hy => ?_⟩
      obtain rfl := same y hy
      refine CallS.at [4, 5, 6, 7, 0, 1, 2, 3] [8] (step_c R ⟨[], [], []⟩ so sm sv sf so2 sl sf2 sn _ y hok .new) rfl rfl ?_
      rintro r h' n2 hn2 ⟨b, sv1, sf1, sl1, sf3, sn1, rfl, hb, rfl⟩
      simp -implicitDefEqProofs only [go_sem, Nat.reduceEqDiff, Nat.reduceAdd, Nat.reduceSub, Nat.reduceMul, Nat.reduceLeDiff, Nat.reduceLT, Nat.reduceBEq, Int.reduceToNat, Int.reduceLE, Int.reduceLT, Int.reduceEq, Int.reduceNe, Int.reduceAdd, Int.reduceSub, Int.reduceNeg, Int.toNat_natCast, reduceCtorEq, reduceIte, Nat.lt_irrefl, and_self, not_false_eq_true, not_true_eq_false, RegH, RefH, nO, nM, nV, nF, nL, rO, rL, rF, rN, Val.v, Val.row, irow, prow, Val.none]
      exact ⟨by omega, ih _ (i + 1, R.step y, sv1, sf1, n2) ⟨by dsimp only; omega, hok.step y, hz.step hok hk y c2⟩ (by dsimp only; omega) (by simp -implicitDefEqProofs only [go_sem, Nat.reduceEqDiff, Nat.reduceAdd, Nat.reduceSub, Nat.reduceMul, Nat.reduceLeDiff, Nat.reduceLT, Nat.reduceBEq, Int.reduceToNat, Int.reduceLE, Int.reduceLT, Int.reduceEq, Int.reduceNe, Int.reduceAdd, Int.reduceSub, Int.reduceNeg, Int.toNat_natCast, reduceCtorEq, reduceIte, Nat.lt_irrefl, and_self, not_false_eq_true, not_true_eq_false, RegH, RefH, nO, nM, nV, nF, nL, rO, rL, rF, rN, Val.v, Val.row, irow, prow, Val.none]; simp)⟩
    · refine CallS.at [] [0, 1, 2, 3, 4] (rnew_c _) rfl rfl ?_
      rintro r h' n1 hn1 ⟨so2, sl, sf2, sn, rfl, rfl⟩
      simp -implicitDefEqProofs only [go_sem, Nat.reduceEqDiff, Nat.reduceAdd, Nat.reduceSub, Nat.reduceMul, Nat.reduceLeDiff, Nat.reduceLT, Nat.reduceBEq, Int.reduceToNat, Int.reduceLE, Int.reduceLT, Int.reduceEq, Int.reduceNe, Int.reduceAdd, Int.reduceSub, Int.reduceNeg, Int.toNat_natCast, reduceCtorEq, reduceIte, Nat.lt_irrefl, and_self, not_false_eq_true, not_true_eq_false, RegH, RefH, nO, nM, nV, nF, nL, rO, rL, rF, rN, Val.v, Val.row, irow, prow, Val.none, Op.row]
      refine ⟨by omega, by omega, oprows, by omega, fun y hy => ?_⟩
      obtain rfl := same y hy
      refine CallS.at [4, 5, 6, 7, 0, 1, 2, 3] [8] (step_c R ⟨[], [], []⟩ so sm sv sf so2 sl sf2 sn _ y hok .new) rfl rfl ?_
      rintro r h' n2 hn2 ⟨b, sv1, sf1, sl1, sf3, sn1, rfl, hb, rfl⟩
      simp -implicitDefEqProofs only [go_sem, Nat.reduceEqDiff, Nat.reduceAdd, Nat.reduceSub, Nat.reduceMul, Nat.reduceLeDiff, Nat.reduceLT, Nat.reduceBEq, Int.reduceToNat, Int.reduceLE, Int.reduceLT, Int.reduceEq, Int.reduceNe, Int.reduceAdd, Int.reduceSub, Int.reduceNeg, Int.toNat_natCast, reduceCtorEq, reduceIte, Nat.lt_irrefl, and_self, not_false_eq_true, not_true_eq_false, RegH, RefH, nO, nM, nV, nF, nL, rO, rL, rF, rN, Val.v, Val.row, irow, prow, Val.none]
      exact ⟨by omega, ih _ (i + 1, R.step y, sv1, sf1, n2) ⟨by dsimp only; omega, hok.step y, hz.step hok hk y c2⟩ (by dsimp only; omega) (by simp -implicitDefEqProofs only [go_sem, Nat.reduceEqDiff, Nat.reduceAdd, Nat.reduceSub, Nat.reduceMul, Nat.reduceLeDiff, Nat.reduceLT, Nat.reduceBEq, Int.reduceToNat, Int.reduceLE, Int.reduceLT, Int.reduceEq, Int.reduceNe, Int.reduceAdd, Int.reduceSub, Int.reduceNeg, Int.toNat_natCast, reduceCtorEq, reduceIte, Nat.lt_irrefl, and_self, not_false_eq_true, not_true_eq_false, RegH, RefH, nO, nM, nV, nF, nL, rO, rL, rF, rN, Val.v, Val.row, irow, prow, Val.none]; simp)⟩
  · clear ih
    have hu : R.used z = true := by
      obtain ⟨q1, q2, q3⟩ := hz
      simp only [Reg.used, List.getD_eq_getElem?_getD, q3, Option.getD_some]
      simp [q1, q2, hk]
    have hz0 : ¬ z = 0 := by have := hz.1; omega
    have e1 : R.value z = (v, 0) := by rw [Reg.value, if_neg hz0, if_pos hu, List.getD_eq_getElem?_getD, hz.2.2]; rfl
    have e2 : R.unref z = (0, { R with vals := R.vals.set (z - 1).toNat Val.none, free := R.free ++ [z] }) := by rw [Reg.unref, if_neg hz0, hu]; rfl
    have hok2 := hok.unref z
    rw [e2] at hok2
    have hu2 : Reg.used { R with vals := R.vals.set (z - 1).toNat Val.none, free := R.free ++ [z] } z = false := by
      rw [used_unref hu]; simp
    generalize hR2 : ({ R with vals := R.vals.set (z - 1).toNat Val.none, free := R.free ++ [z] } : Reg) = R2 at *
    have e3 : R2.value z = (Val.none, 6) := by rw [Reg.value, if_neg hz0, hu2]; rfl
    have e4 : R2.unref z = (6, R2) := by rw [Reg.unref, if_neg hz0, hu2]; rfl
    refine CallS.at [0, 1, 2, 3] [4] (value_c R so sm sv sf _ z hok) rfl rfl ?_
    rintro r h' n2 hn2 ⟨rfl, rfl⟩
    rw [e1]
    simp -implicitDefEqProofs only [go_sem, Nat.reduceEqDiff, Nat.reduceAdd, Nat.reduceSub, Nat.reduceMul, Nat.reduceLeDiff, Nat.reduceLT, Nat.reduceBEq, Int.reduceToNat, Int.reduceLE, Int.reduceLT, Int.reduceEq, Int.reduceNe, Int.reduceAdd, Int.reduceSub, Int.reduceNeg, Int.toNat_natCast, reduceCtorEq, reduceIte, Nat.lt_irrefl, and_self, not_false_eq_true, not_true_eq_false, RegH, RefH, nO, nM, nV, nF, nL, rO, rL, rF, rN, Val.v, Val.row, irow, prow, Val.none]
    refine CallS.at [1, 2, 3, 4] [0, 5] (unref_c R so sm sv sf _ z hok) rfl rfl ?_
    rintro r h' n3 hn3 ⟨sv, sf, rfl, rfl⟩
    rw [e2]
    simp -implicitDefEqProofs only [go_sem, Nat.reduceEqDiff, Nat.reduceAdd, Nat.reduceSub, Nat.reduceMul, Nat.reduceLeDiff, Nat.reduceLT, Nat.reduceBEq, Int.reduceToNat, Int.reduceLE, Int.reduceLT, Int.reduceEq, Int.reduceNe, Int.reduceAdd, Int.reduceSub, Int.reduceNeg, Int.toNat_natCast, reduceCtorEq, reduceIte, Nat.lt_irrefl, and_self, not_false_eq_true, not_true_eq_false, RegH, RefH, nO, nM, nV, nF, nL, rO, rL, rF, rN, Val.v, Val.row, irow, prow, Val.none]
    refine CallS.at [0, 1, 2, 3] [4, 5] (value_c R2 so sm sv sf _ z hok2) rfl rfl ?_
    rintro r h' n4 hn4 ⟨rfl, rfl⟩
    rw [e3]
    simp -implicitDefEqProofs only [go_sem, Nat.reduceEqDiff, Nat.reduceAdd, Nat.reduceSub, Nat.reduceMul, Nat.reduceLeDiff, Nat.reduceLT, Nat.reduceBEq, Int.reduceToNat, Int.reduceLE, Int.reduceLT, Int.reduceEq, Int.reduceNe, Int.reduceAdd, Int.reduceSub, Int.reduceNeg, Int.toNat_natCast, reduceCtorEq, reduceIte, Nat.lt_irrefl, and_self, not_false_eq_true, not_true_eq_false, RegH, RefH, nO, nM, nV, nF, nL, rO, rL, rF, rN, Val.v, Val.row, irow, prow, Val.none]
    refine CallS.at [1, 2, 3, 4] [0, 5, 6] (unref_c R2 so sm sv sf _ z hok2) rfl rfl ?_
    rintro r h' n5 hn5 ⟨sv, sf, rfl, rfl⟩
    rw [e4]
    simp -implicitDefEqProofs only [go_sem, Nat.reduceEqDiff, Nat.reduceAdd, Nat.reduceSub, Nat.reduceMul, Nat.reduceLeDiff, Nat.reduceLT, Nat.reduceBEq, Int.reduceToNat, Int.reduceLE, Int.reduceLT, Int.reduceEq, Int.reduceNe, Int.reduceAdd, Int.reduceSub, Int.reduceNeg, Int.toNat_natCast, reduceCtorEq, reduceIte, Nat.lt_irrefl, and_self, not_false_eq_true, not_true_eq_false, RegH, RefH, nO, nM, nV, nF, nL, rO, rL, rF, rN, Val.v, Val.row, irow, prow, Val.none]
    refine CallS.pureF lives_pure (by simp -implicitDefEqProofs only [go_sem, Nat.reduceEqDiff, Nat.reduceAdd, Nat.reduceSub, Nat.reduceMul, Nat.reduceLeDiff, Nat.reduceLT, Nat.reduceBEq, Int.reduceToNat, Int.reduceLE, Int.reduceLT, Int.reduceEq, Int.reduceNe, Int.reduceAdd, Int.reduceSub, Int.reduceNeg, Int.toNat_natCast, reduceCtorEq, reduceIte, Nat.lt_irrefl, and_self, not_false_eq_true, not_true_eq_false, RegH, RefH, nO, nM, nV, nF, nL, rO, rL, rF, rN, Val.v, Val.row, irow, prow, Val.none]) ?_
    simp -implicitDefEqProofs only [go_sem, Nat.reduceEqDiff, Nat.reduceAdd, Nat.reduceSub, Nat.reduceMul, Nat.reduceLeDiff, Nat.reduceLT, Nat.reduceBEq, Int.reduceToNat, Int.reduceLE, Int.reduceLT, Int.reduceEq, Int.reduceNe, Int.reduceAdd, Int.reduceSub, Int.reduceNeg, Int.toNat_natCast, reduceCtorEq, reduceIte, Nat.lt_irrefl, and_self, not_false_eq_true, not_true_eq_false, RegH, RefH, nO, nM, nV, nF, nL, rO, rL, rF, rN, Val.v, Val.row, irow, prow, Val.none]

theorem ops_of {es : List (List V)} (h : ∀ row ∈ es, Typed Try.prog 45 row) : ∃ l : List Op, es = l.map Op.row := by
  obtain ⟨l, rfl, _⟩ := rows_map (f := Op.row) (p := fun _ => True) fun row hr => by
    obtain ⟨o, ho⟩ := op_of (h row hr)
    exact ⟨o, ho, trivial⟩
  exact ⟨l, rfl⟩

theorem registryKeeps_args (es : List (List V)) (hl : es.length ≤ maxLen) (he : ∀ row ∈ es, Typed Try.prog 45 row) (vs : List V) (hv : Typed Try.prog 29 vs)
    (ms : List (List V)) (hml : ms.length ≤ maxLen) (hm : ∀ row ∈ ms, Typed Try.prog 45 row) :
    Pure Try.prog 4 [.isl es, .agg vs, .isl ms] (.bool true) := by
  obtain ⟨l, rfl⟩ := ops_of he
  obtain ⟨v, rfl⟩ := val_of hv
  obtain ⟨m, rfl⟩ := ops_of hm
  exact keeps_pure l m (by simpa using hl) (by simpa using hml) v

end Go.Proofs.Ytnjgkcafmlmpcaa
