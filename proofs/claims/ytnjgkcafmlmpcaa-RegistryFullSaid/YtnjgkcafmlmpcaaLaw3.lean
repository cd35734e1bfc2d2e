/-
  Registry: a name has the value that was put last. No condition.
-/
import Derived.Test.YtnjgkcafmlmpcaaLaw2
set_option linter.unusedVariables false
set_option linter.unusedSimpArgs false
set_option maxRecDepth 100000
set_option maxHeartbeats 0
namespace Go.Proofs.Ytnjgkcafmlmpcaa
open Go.Abs
attribute [local irreducible] CallS Run
-- EV: RegH, RefH, nO, nM, nV, nF, nL, rO, rL, rF, rN, Val.v, Val.row, irow, prow, Val.none

theorem findN_put (k : List UInt8) (v : Val) : ∀ l : List (List UInt8 × Val), findN k (putN k v l) = some v
  | [] => by simp [putN, findN]
  | e :: r => by
    simp only [putN]
    by_cases h : k = e.1
    · simp [h, findN]
    · simp [h, findN, findN_put k v r]
theorem findN_put' {k j : List UInt8} (hj : ¬ k = j) (v : Val) : ∀ l : List (List UInt8 × Val), findN j (putN k v l) = findN j l
  | [] => by simp [putN, findN]; exact fun h => hj h.symm
  | e :: r => by
    simp only [putN]
    by_cases h : k = e.1
    · subst h
      have : ¬ j = e.1 := fun h => hj h.symm
      simp [findN, this]
    · simp [h, findN, findN_put' hj v r]
theorem findN_rem' {k j : List UInt8} (hj : ¬ k = j) : ∀ l : List (List UInt8 × Val), findN j (remN k l) = findN j l
  | [] => rfl
  | e :: r => by
    simp only [remN]
    by_cases h : k = e.1
    · subst h
      have : ¬ j = e.1 := fun h => hj h.symm
      simp [findN, this]
    · simp [h, findN, findN_rem' hj r]
theorem findN_not {k : List UInt8} : ∀ {l : List (List UInt8 × Val)}, k ∉ l.map (·.1) → findN k l = none
  | [], _ => rfl
  | e :: r, h => by
    simp only [List.map_cons, List.mem_cons, not_or] at h
    simp [findN, h.1, findN_not h.2]
theorem findN_rem (k : List UInt8) : ∀ l : List (List UInt8 × Val), (l.map (·.1)).Nodup → findN k (remN k l) = none
  | [], _ => rfl
  | e :: r, h => by
    simp only [List.map_cons, List.nodup_cons] at h
    simp only [remN]
    by_cases hk : k = e.1
    · subst hk
      rw [if_pos rfl]; exact findN_not h.1
    · simp [hk, findN, findN_rem k r h.2]

def Short (R : Reg) : Prop := ∀ k ∈ R.names.map (·.1), k.length ≤ 4096

theorem step_names {R : Reg} (h : Short R) (o : Op) : Short (R.step o) ∧ (R.step o).names.length ≤ R.names.length + 1 := by
  have same : ∀ X : Reg, X.names = R.names → Short X ∧ X.names.length ≤ R.names.length + 1 := fun X e => by
    unfold Short; rw [e]; exact ⟨h, by omega⟩
  unfold Reg.step Reg.ref Reg.unref Reg.put
  repeat' split
  all_goals try exact same _ rfl
  · refine ⟨fun k hk => ?_, ?_⟩
    · have := (remN_sub o.name R.names).map (·.1)
      exact h k (this.subset hk)
    · have := (remN_sub o.name R.names).length_le
      show (remN o.name R.names).length ≤ _
      omega
  · have hk := putN_keys o.name o.v R.names
    refine ⟨fun k hk' => ?_, ?_⟩
    · rw [hk] at hk'
      split at hk'
      · rcases List.mem_append.1 hk' with hk' | hk'
        · exact h k hk'
        · simp at hk'; subst hk'; omega
      · exact h k hk'
    · have := congrArg List.length hk
      rw [List.length_map] at this
      show (putN o.name o.v R.names).length ≤ _
      rw [this]
      split <;> simp
theorem fold_names : ∀ (l : List Op) (R : Reg), Short R → Short (l.foldl Reg.step R) ∧ (l.foldl Reg.step R).names.length ≤ R.names.length + l.length
  | [], R, h => ⟨h, Nat.le_refl _⟩
  | o :: l, R, h => by
    obtain ⟨h1, h2⟩ := step_names h o
    obtain ⟨h3, h4⟩ := fold_names l (R.step o) h1
    exact ⟨h3, by simp only [List.foldl_cons, List.length_cons]; omega⟩
theorem after_names (l : List Op) : Short (after l) ∧ (after l).names.length ≤ l.length := by
  have := fold_names l ⟨[], [], []⟩ (by simp [Short])
  simpa [after] using this

theorem find_eq {R R' : Reg} {k : List UInt8} (h : findN k R.names = findN k R'.names) : R.find k = R'.find k := by rw [Reg.find, Reg.find, h]

theorem names_facts {R : Reg} (hok : R.OK) (hs : Short R) (hl : R.names.length < 1000) (name : List UInt8) (v : Val) (other : List UInt8) :
    (¬ name = other → (R.put name v).2.find other = R.find other) ∧ (4096 < name.length → (R.put name v).1 = 14 ∧ ((R.put name v).2.find name).2 = false) ∧
    (¬ 4096 < name.length → v.ok = false → (R.put name v).1 = 2) ∧ (¬ 4096 < name.length → v.ok = true → (R.put name v).1 = 0 ∧ (R.put name v).2.find name = (v, decide (v.k ≠ 0))) := by
  refine ⟨fun h => ?_, fun h => ?_, fun h hv => ?_, fun h hv => ?_⟩
  · unfold Reg.put
    repeat' split
    all_goals try rfl
    · exact find_eq (findN_rem' h _)
    · exact find_eq (findN_put' h v _)
  · rw [Reg.put, if_pos h]
    refine ⟨rfl, ?_⟩
    have : findN name R.names = none := findN_not fun hm => by have := hs _ hm; omega
    rw [Reg.find, this]
  · rw [Reg.put, if_neg h, if_pos hv]
  · rw [Reg.put, if_neg h, if_neg (by rw [hv]; simp)]
    by_cases hk : v.k = 0
    · rw [if_pos hk]
      refine ⟨rfl, ?_⟩
      rw [Reg.find, findN_rem _ _ hok.keys]
      simp only [hk, ne_eq, not_true_eq_false, decide_false, Prod.mk.injEq, and_true]
      obtain ⟨k, p, q, s, r⟩ := v
      simp only at hk
      subst hk
      simp [Val.ok, vValid] at hv
      obtain ⟨rfl, rfl, rfl, rfl⟩ := hv
      rfl
    · rw [if_neg hk, if_neg (by omega)]
      refine ⟨rfl, ?_⟩
      rw [Reg.find, findN_put]
      simp [hk]

theorem names_pure (l : List Op) (hl : l.length ≤ maxLen) (name : List UInt8) (hname : name.length ≤ maxLen) (v : Val) (other : List UInt8) (hother : other.length ≤ maxLen) :
    Pure Try.prog 5 [.isl (l.map Op.row), .str name, v.v, .str other] (.bool true) := by
  refine Pure.of 0 (CallS.enter scriptinglaw18_RegistryNames_ok (Nat.le_of_ble_eq_true rfl) (Run.go 100 ?_))
  simp -implicitDefEqProofs only [go_sem, Nat.reduceEqDiff, Nat.reduceAdd, Nat.reduceSub, Nat.reduceMul, Nat.reduceLeDiff, Nat.reduceLT, Nat.reduceBEq, Int.reduceToNat, Int.reduceLE, Int.reduceLT, Int.reduceEq, Int.reduceNe, Int.reduceAdd, Int.reduceSub, Int.reduceNeg, Int.toNat_natCast, reduceCtorEq, reduceIte, Nat.lt_irrefl, and_self, not_false_eq_true, not_true_eq_false, RegH, RefH, nO, nM, nV, nF, nL, rO, rL, rF, rN, Val.v, Val.row, irow, prow, Val.none, initSl]
  refine CallS.pureF (large_pure l hl) (by simp -implicitDefEqProofs only [go_sem, Nat.reduceEqDiff, Nat.reduceAdd, Nat.reduceSub, Nat.reduceMul, Nat.reduceLeDiff, Nat.reduceLT, Nat.reduceBEq, Int.reduceToNat, Int.reduceLE, Int.reduceLT, Int.reduceEq, Int.reduceNe, Int.reduceAdd, Int.reduceSub, Int.reduceNeg, Int.toNat_natCast, reduceCtorEq, reduceIte, Nat.lt_irrefl, and_self, not_false_eq_true, not_true_eq_false, RegH, RefH, nO, nM, nV, nF, nL, rO, rL, rF, rN, Val.v, Val.row, irow, prow, Val.none]; exact ops_sub l) ?_
  simp -implicitDefEqProofs only [go_sem, Nat.reduceEqDiff, Nat.reduceAdd, Nat.reduceSub, Nat.reduceMul, Nat.reduceLeDiff, Nat.reduceLT, Nat.reduceBEq, Int.reduceToNat, Int.reduceLE, Int.reduceLT, Int.reduceEq, Int.reduceNe, Int.reduceAdd, Int.reduceSub, Int.reduceNeg, Int.toNat_natCast, reduceCtorEq, reduceIte, Nat.lt_irrefl, and_self, not_false_eq_true, not_true_eq_false, RegH, RefH, nO, nM, nV, nF, nL, rO, rL, rF, rN, Val.v, Val.row, irow, prow, Val.none]
  refine ⟨fun c1 => ⟨fun c2 => ⟨fun c3 => ?_, fun c3 => ?_⟩, fun c2 => ?_⟩, fun c1 => ?_⟩
  · refine CallS.pureF lives_pure (by simp -implicitDefEqProofs only [go_sem, Nat.reduceEqDiff, Nat.reduceAdd, Nat.reduceSub, Nat.reduceMul, Nat.reduceLeDiff, Nat.reduceLT, Nat.reduceBEq, Int.reduceToNat, Int.reduceLE, Int.reduceLT, Int.reduceEq, Int.reduceNe, Int.reduceAdd, Int.reduceSub, Int.reduceNeg, Int.toNat_natCast, reduceCtorEq, reduceIte, Nat.lt_irrefl, and_self, not_false_eq_true, not_true_eq_false, RegH, RefH, nO, nM, nV, nF, nL, rO, rL, rF, rN, Val.v, Val.row, irow, prow, Val.none]) ?_
    simp -implicitDefEqProofs only [go_sem, Nat.reduceEqDiff, Nat.reduceAdd, Nat.reduceSub, Nat.reduceMul, Nat.reduceLeDiff, Nat.reduceLT, Nat.reduceBEq, Int.reduceToNat, Int.reduceLE, Int.reduceLT, Int.reduceEq, Int.reduceNe, Int.reduceAdd, Int.reduceSub, Int.reduceNeg, Int.toNat_natCast, reduceCtorEq, reduceIte, Nat.lt_irrefl, and_self, not_false_eq_true, not_true_eq_false, RegH, RefH, nO, nM, nV, nF, nL, rO, rL, rF, rN, Val.v, Val.row, irow, prow, Val.none]
  · refine CallS.at [] [0] (made_c l (not_large c1) _) rfl rfl ?_
    rintro r h' n1 hn1 ⟨so, sm, sv, sf, so2, sl, sf2, sn, rfl, rfl⟩
    have hok := after_ok l
    have hnm := after_names l
    have hll := not_large c1
    generalize after l = R at *
    have facts := names_facts hok hnm.1 (by omega) name v other
    simp -implicitDefEqProofs only [go_sem, Nat.reduceEqDiff, Nat.reduceAdd, Nat.reduceSub, Nat.reduceMul, Nat.reduceLeDiff, Nat.reduceLT, Nat.reduceBEq, Int.reduceToNat, Int.reduceLE, Int.reduceLT, Int.reduceEq, Int.reduceNe, Int.reduceAdd, Int.reduceSub, Int.reduceNeg, Int.toNat_natCast, reduceCtorEq, reduceIte, Nat.lt_irrefl, and_self, not_false_eq_true, not_true_eq_false, RegH, RefH, nO, nM, nV, nF, nL, rO, rL, rF, rN, Val.v, Val.row, irow, prow, Val.none]
    refine CallS.at [0, 1, 2, 3] [4, 5, 6, 7, 8] (find_c R so sm sv sf _ other) rfl rfl ?_
    rintro r h' n2 hn2 ⟨rfl, rfl⟩
    simp -implicitDefEqProofs only [go_sem, Nat.reduceEqDiff, Nat.reduceAdd, Nat.reduceSub, Nat.reduceMul, Nat.reduceLeDiff, Nat.reduceLT, Nat.reduceBEq, Int.reduceToNat, Int.reduceLE, Int.reduceLT, Int.reduceEq, Int.reduceNe, Int.reduceAdd, Int.reduceSub, Int.reduceNeg, Int.toNat_natCast, reduceCtorEq, reduceIte, Nat.lt_irrefl, and_self, not_false_eq_true, not_true_eq_false, RegH, RefH, nO, nM, nV, nF, nL, rO, rL, rF, rN, Val.v, Val.row, irow, prow, Val.none]
    refine CallS.at [1, 2, 3, 4] [0, 5, 6, 7, 8, 9] (put_c R so sm sv sf _ name v hok) rfl rfl ?_
    rintro r h' n3 hn3 ⟨rfl, rfl⟩
    generalize hP : R.put name v = P at *
    obtain ⟨e, R2⟩ := P
    dsimp only at facts ⊢
    simp -implicitDefEqProofs only [go_sem, Nat.reduceEqDiff, Nat.reduceAdd, Nat.reduceSub, Nat.reduceMul, Nat.reduceLeDiff, Nat.reduceLT, Nat.reduceBEq, Int.reduceToNat, Int.reduceLE, Int.reduceLT, Int.reduceEq, Int.reduceNe, Int.reduceAdd, Int.reduceSub, Int.reduceNeg, Int.toNat_natCast, reduceCtorEq, reduceIte, Nat.lt_irrefl, and_self, not_false_eq_true, not_true_eq_false, RegH, RefH, nO, nM, nV, nF, nL, rO, rL, rF, rN, Val.v, Val.row, irow, prow, Val.none]
    refine CallS.at [0, 1, 2, 3] [4, 5, 6, 7, 8, 9] (find_c R2 so sm sv sf _ name) rfl rfl ?_
    rintro r h' n4 hn4 ⟨rfl, rfl⟩
    simp -implicitDefEqProofs only [go_sem, Nat.reduceEqDiff, Nat.reduceAdd, Nat.reduceSub, Nat.reduceMul, Nat.reduceLeDiff, Nat.reduceLT, Nat.reduceBEq, Int.reduceToNat, Int.reduceLE, Int.reduceLT, Int.reduceEq, Int.reduceNe, Int.reduceAdd, Int.reduceSub, Int.reduceNeg, Int.toNat_natCast, reduceCtorEq, reduceIte, Nat.lt_irrefl, and_self, not_false_eq_true, not_true_eq_false, RegH, RefH, nO, nM, nV, nF, nL, rO, rL, rF, rN, Val.v, Val.row, irow, prow, Val.none]
    refine CallS.at [1, 2, 3, 4] [0, 5, 6, 7, 8, 9, 10] (find_c R2 so sm sv sf _ other) rfl rfl ?_
    rintro r h' n5 hn5 ⟨rfl, rfl⟩
    generalize hF : R2.find name = F at *
    generalize hG : R2.find other = G at *
    generalize hH : R.find other = H at *
    obtain ⟨fv, fb⟩ := F
    obtain ⟨gv, gb⟩ := G
    obtain ⟨hv, hb⟩ := H
    dsimp only at facts ⊢
    by_cases hno : name = other
    · subst hno
      by_cases hlong : 4096 < name.length
      · obtain ⟨rfl, rfl⟩ := facts.2.1 hlong
        have hi : (4096 : Int) < (name.length : Int) := by omega
        simp -implicitDefEqProofs only [go_sem, Nat.reduceEqDiff, Nat.reduceAdd, Nat.reduceSub, Nat.reduceMul, Nat.reduceLeDiff, Nat.reduceLT, Nat.reduceBEq, Int.reduceToNat, Int.reduceLE, Int.reduceLT, Int.reduceEq, Int.reduceNe, Int.reduceAdd, Int.reduceSub, Int.reduceNeg, Int.toNat_natCast, reduceCtorEq, reduceIte, Nat.lt_irrefl, and_self, not_false_eq_true, not_true_eq_false, RegH, RefH, nO, nM, nV, nF, nL, rO, rL, rF, rN, Val.v, Val.row, irow, prow, Val.none, hi]
        refine CallS.pureF lives_pure (by simp -implicitDefEqProofs only [go_sem, Nat.reduceEqDiff, Nat.reduceAdd, Nat.reduceSub, Nat.reduceMul, Nat.reduceLeDiff, Nat.reduceLT, Nat.reduceBEq, Int.reduceToNat, Int.reduceLE, Int.reduceLT, Int.reduceEq, Int.reduceNe, Int.reduceAdd, Int.reduceSub, Int.reduceNeg, Int.toNat_natCast, reduceCtorEq, reduceIte, Nat.lt_irrefl, and_self, not_false_eq_true, not_true_eq_false, RegH, RefH, nO, nM, nV, nF, nL, rO, rL, rF, rN, Val.v, Val.row, irow, prow, Val.none]) ?_
        simp -implicitDefEqProofs only [go_sem, Nat.reduceEqDiff, Nat.reduceAdd, Nat.reduceSub, Nat.reduceMul, Nat.reduceLeDiff, Nat.reduceLT, Nat.reduceBEq, Int.reduceToNat, Int.reduceLE, Int.reduceLT, Int.reduceEq, Int.reduceNe, Int.reduceAdd, Int.reduceSub, Int.reduceNeg, Int.toNat_natCast, reduceCtorEq, reduceIte, Nat.lt_irrefl, and_self, not_false_eq_true, not_true_eq_false, RegH, RefH, nO, nM, nV, nF, nL, rO, rL, rF, rN, Val.v, Val.row, irow, prow, Val.none]
      · have hi : ¬ (4096 : Int) < (name.length : Int) := by omega
        cases hvv : vValid v.k v.p v.q v.s v.r with
        | false =>
          obtain rfl := facts.2.2.1 hlong hvv
          simp -implicitDefEqProofs only [go_sem, Nat.reduceEqDiff, Nat.reduceAdd, Nat.reduceSub, Nat.reduceMul, Nat.reduceLeDiff, Nat.reduceLT, Nat.reduceBEq, Int.reduceToNat, Int.reduceLE, Int.reduceLT, Int.reduceEq, Int.reduceNe, Int.reduceAdd, Int.reduceSub, Int.reduceNeg, Int.toNat_natCast, reduceCtorEq, reduceIte, Nat.lt_irrefl, and_self, not_false_eq_true, not_true_eq_false, RegH, RefH, nO, nM, nV, nF, nL, rO, rL, rF, rN, Val.v, Val.row, irow, prow, Val.none, hi]
          refine CallS.pureF (rValid_pure _ _ _ _ _) (by simp -implicitDefEqProofs only [go_sem, Nat.reduceEqDiff, Nat.reduceAdd, Nat.reduceSub, Nat.reduceMul, Nat.reduceLeDiff, Nat.reduceLT, Nat.reduceBEq, Int.reduceToNat, Int.reduceLE, Int.reduceLT, Int.reduceEq, Int.reduceNe, Int.reduceAdd, Int.reduceSub, Int.reduceNeg, Int.toNat_natCast, reduceCtorEq, reduceIte, Nat.lt_irrefl, and_self, not_false_eq_true, not_true_eq_false, RegH, RefH, nO, nM, nV, nF, nL, rO, rL, rF, rN, Val.v, Val.row, irow, prow, Val.none]) ?_
          simp -implicitDefEqProofs only [go_sem, Nat.reduceEqDiff, Nat.reduceAdd, Nat.reduceSub, Nat.reduceMul, Nat.reduceLeDiff, Nat.reduceLT, Nat.reduceBEq, Int.reduceToNat, Int.reduceLE, Int.reduceLT, Int.reduceEq, Int.reduceNe, Int.reduceAdd, Int.reduceSub, Int.reduceNeg, Int.toNat_natCast, reduceCtorEq, reduceIte, Nat.lt_irrefl, and_self, not_false_eq_true, not_true_eq_false, RegH, RefH, nO, nM, nV, nF, nL, rO, rL, rF, rN, Val.v, Val.row, irow, prow, Val.none, hvv]
          refine CallS.pureF lives_pure (by simp -implicitDefEqProofs only [go_sem, Nat.reduceEqDiff, Nat.reduceAdd, Nat.reduceSub, Nat.reduceMul, Nat.reduceLeDiff, Nat.reduceLT, Nat.reduceBEq, Int.reduceToNat, Int.reduceLE, Int.reduceLT, Int.reduceEq, Int.reduceNe, Int.reduceAdd, Int.reduceSub, Int.reduceNeg, Int.toNat_natCast, reduceCtorEq, reduceIte, Nat.lt_irrefl, and_self, not_false_eq_true, not_true_eq_false, RegH, RefH, nO, nM, nV, nF, nL, rO, rL, rF, rN, Val.v, Val.row, irow, prow, Val.none]) ?_
          simp -implicitDefEqProofs only [go_sem, Nat.reduceEqDiff, Nat.reduceAdd, Nat.reduceSub, Nat.reduceMul, Nat.reduceLeDiff, Nat.reduceLT, Nat.reduceBEq, Int.reduceToNat, Int.reduceLE, Int.reduceLT, Int.reduceEq, Int.reduceNe, Int.reduceAdd, Int.reduceSub, Int.reduceNeg, Int.toNat_natCast, reduceCtorEq, reduceIte, Nat.lt_irrefl, and_self, not_false_eq_true, not_true_eq_false, RegH, RefH, nO, nM, nV, nF, nL, rO, rL, rF, rN, Val.v, Val.row, irow, prow, Val.none]
        | true =>
          obtain ⟨rfl, hfv⟩ := facts.2.2.2 hlong hvv
          obtain ⟨rfl, rfl⟩ := Prod.mk.inj hfv
          simp -implicitDefEqProofs only [go_sem, Nat.reduceEqDiff, Nat.reduceAdd, Nat.reduceSub, Nat.reduceMul, Nat.reduceLeDiff, Nat.reduceLT, Nat.reduceBEq, Int.reduceToNat, Int.reduceLE, Int.reduceLT, Int.reduceEq, Int.reduceNe, Int.reduceAdd, Int.reduceSub, Int.reduceNeg, Int.toNat_natCast, reduceCtorEq, reduceIte, Nat.lt_irrefl, and_self, not_false_eq_true, not_true_eq_false, RegH, RefH, nO, nM, nV, nF, nL, rO, rL, rF, rN, Val.v, Val.row, irow, prow, Val.none, hi]
          refine CallS.pureF (rValid_pure _ _ _ _ _) (by simp -implicitDefEqProofs only [go_sem, Nat.reduceEqDiff, Nat.reduceAdd, Nat.reduceSub, Nat.reduceMul, Nat.reduceLeDiff, Nat.reduceLT, Nat.reduceBEq, Int.reduceToNat, Int.reduceLE, Int.reduceLT, Int.reduceEq, Int.reduceNe, Int.reduceAdd, Int.reduceSub, Int.reduceNeg, Int.toNat_natCast, reduceCtorEq, reduceIte, Nat.lt_irrefl, and_self, not_false_eq_true, not_true_eq_false, RegH, RefH, nO, nM, nV, nF, nL, rO, rL, rF, rN, Val.v, Val.row, irow, prow, Val.none]) ?_
          simp -implicitDefEqProofs only [go_sem, Nat.reduceEqDiff, Nat.reduceAdd, Nat.reduceSub, Nat.reduceMul, Nat.reduceLeDiff, Nat.reduceLT, Nat.reduceBEq, Int.reduceToNat, Int.reduceLE, Int.reduceLT, Int.reduceEq, Int.reduceNe, Int.reduceAdd, Int.reduceSub, Int.reduceNeg, Int.toNat_natCast, reduceCtorEq, reduceIte, Nat.lt_irrefl, and_self, not_false_eq_true, not_true_eq_false, RegH, RefH, nO, nM, nV, nF, nL, rO, rL, rF, rN, Val.v, Val.row, irow, prow, Val.none, hvv]
          refine CallS.pureF lives_pure (by simp -implicitDefEqProofs only [go_sem, Nat.reduceEqDiff, Nat.reduceAdd, Nat.reduceSub, Nat.reduceMul, Nat.reduceLeDiff, Nat.reduceLT, Nat.reduceBEq, Int.reduceToNat, Int.reduceLE, Int.reduceLT, Int.reduceEq, Int.reduceNe, Int.reduceAdd, Int.reduceSub, Int.reduceNeg, Int.toNat_natCast, reduceCtorEq, reduceIte, Nat.lt_irrefl, and_self, not_false_eq_true, not_true_eq_false, RegH, RefH, nO, nM, nV, nF, nL, rO, rL, rF, rN, Val.v, Val.row, irow, prow, Val.none]) ?_
          simp -implicitDefEqProofs only [go_sem, Nat.reduceEqDiff, Nat.reduceAdd, Nat.reduceSub, Nat.reduceMul, Nat.reduceLeDiff, Nat.reduceLT, Nat.reduceBEq, Int.reduceToNat, Int.reduceLE, Int.reduceLT, Int.reduceEq, Int.reduceNe, Int.reduceAdd, Int.reduceSub, Int.reduceNeg, Int.toNat_natCast, reduceCtorEq, reduceIte, Nat.lt_irrefl, and_self, not_false_eq_true, not_true_eq_false, RegH, RefH, nO, nM, nV, nF, nL, rO, rL, rF, rN, Val.v, Val.row, irow, prow, Val.none]
    · obtain ⟨rfl, rfl⟩ := Prod.mk.inj (facts.1 hno)
      by_cases hlong : 4096 < name.length
      · obtain ⟨rfl, rfl⟩ := facts.2.1 hlong
        have hi : (4096 : Int) < (name.length : Int) := by omega
        simp -implicitDefEqProofs only [go_sem, Nat.reduceEqDiff, Nat.reduceAdd, Nat.reduceSub, Nat.reduceMul, Nat.reduceLeDiff, Nat.reduceLT, Nat.reduceBEq, Int.reduceToNat, Int.reduceLE, Int.reduceLT, Int.reduceEq, Int.reduceNe, Int.reduceAdd, Int.reduceSub, Int.reduceNeg, Int.toNat_natCast, reduceCtorEq, reduceIte, Nat.lt_irrefl, and_self, not_false_eq_true, not_true_eq_false, RegH, RefH, nO, nM, nV, nF, nL, rO, rL, rF, rN, Val.v, Val.row, irow, prow, Val.none, hno, hi]
        refine CallS.pureF lives_pure (by simp -implicitDefEqProofs only [go_sem, Nat.reduceEqDiff, Nat.reduceAdd, Nat.reduceSub, Nat.reduceMul, Nat.reduceLeDiff, Nat.reduceLT, Nat.reduceBEq, Int.reduceToNat, Int.reduceLE, Int.reduceLT, Int.reduceEq, Int.reduceNe, Int.reduceAdd, Int.reduceSub, Int.reduceNeg, Int.toNat_natCast, reduceCtorEq, reduceIte, Nat.lt_irrefl, and_self, not_false_eq_true, not_true_eq_false, RegH, RefH, nO, nM, nV, nF, nL, rO, rL, rF, rN, Val.v, Val.row, irow, prow, Val.none]) ?_
        simp -implicitDefEqProofs only [go_sem, Nat.reduceEqDiff, Nat.reduceAdd, Nat.reduceSub, Nat.reduceMul, Nat.reduceLeDiff, Nat.reduceLT, Nat.reduceBEq, Int.reduceToNat, Int.reduceLE, Int.reduceLT, Int.reduceEq, Int.reduceNe, Int.reduceAdd, Int.reduceSub, Int.reduceNeg, Int.toNat_natCast, reduceCtorEq, reduceIte, Nat.lt_irrefl, and_self, not_false_eq_true, not_true_eq_false, RegH, RefH, nO, nM, nV, nF, nL, rO, rL, rF, rN, Val.v, Val.row, irow, prow, Val.none]
      · have hi : ¬ (4096 : Int) < (name.length : Int) := by omega
        cases hvv : vValid v.k v.p v.q v.s v.r with
        | false =>
          obtain rfl := facts.2.2.1 hlong hvv
          simp -implicitDefEqProofs only [go_sem, Nat.reduceEqDiff, Nat.reduceAdd, Nat.reduceSub, Nat.reduceMul, Nat.reduceLeDiff, Nat.reduceLT, Nat.reduceBEq, Int.reduceToNat, Int.reduceLE, Int.reduceLT, Int.reduceEq, Int.reduceNe, Int.reduceAdd, Int.reduceSub, Int.reduceNeg, Int.toNat_natCast, reduceCtorEq, reduceIte, Nat.lt_irrefl, and_self, not_false_eq_true, not_true_eq_false, RegH, RefH, nO, nM, nV, nF, nL, rO, rL, rF, rN, Val.v, Val.row, irow, prow, Val.none, hno, hi]
          refine CallS.pureF (rValid_pure _ _ _ _ _) (by simp -implicitDefEqProofs only [go_sem, Nat.reduceEqDiff, Nat.reduceAdd, Nat.reduceSub, Nat.reduceMul, Nat.reduceLeDiff, Nat.reduceLT, Nat.reduceBEq, Int.reduceToNat, Int.reduceLE, Int.reduceLT, Int.reduceEq, Int.reduceNe, Int.reduceAdd, Int.reduceSub, Int.reduceNeg, Int.toNat_natCast, reduceCtorEq, reduceIte, Nat.lt_irrefl, and_self, not_false_eq_true, not_true_eq_false, RegH, RefH, nO, nM, nV, nF, nL, rO, rL, rF, rN, Val.v, Val.row, irow, prow, Val.none]) ?_
          simp -implicitDefEqProofs only [go_sem, Nat.reduceEqDiff, Nat.reduceAdd, Nat.reduceSub, Nat.reduceMul, Nat.reduceLeDiff, Nat.reduceLT, Nat.reduceBEq, Int.reduceToNat, Int.reduceLE, Int.reduceLT, Int.reduceEq, Int.reduceNe, Int.reduceAdd, Int.reduceSub, Int.reduceNeg, Int.toNat_natCast, reduceCtorEq, reduceIte, Nat.lt_irrefl, and_self, not_false_eq_true, not_true_eq_false, RegH, RefH, nO, nM, nV, nF, nL, rO, rL, rF, rN, Val.v, Val.row, irow, prow, Val.none, hvv]
          refine CallS.pureF lives_pure (by simp -implicitDefEqProofs only [go_sem, Nat.reduceEqDiff, Nat.reduceAdd, Nat.reduceSub, Nat.reduceMul, Nat.reduceLeDiff, Nat.reduceLT, Nat.reduceBEq, Int.reduceToNat, Int.reduceLE, Int.reduceLT, Int.reduceEq, Int.reduceNe, Int.reduceAdd, Int.reduceSub, Int.reduceNeg, Int.toNat_natCast, reduceCtorEq, reduceIte, Nat.lt_irrefl, and_self, not_false_eq_true, not_true_eq_false, RegH, RefH, nO, nM, nV, nF, nL, rO, rL, rF, rN, Val.v, Val.row, irow, prow, Val.none]) ?_
          simp -implicitDefEqProofs only [go_sem, Nat.reduceEqDiff, Nat.reduceAdd, Nat.reduceSub, Nat.reduceMul, Nat.reduceLeDiff, Nat.reduceLT, Nat.reduceBEq, Int.reduceToNat, Int.reduceLE, Int.reduceLT, Int.reduceEq, Int.reduceNe, Int.reduceAdd, Int.reduceSub, Int.reduceNeg, Int.toNat_natCast, reduceCtorEq, reduceIte, Nat.lt_irrefl, and_self, not_false_eq_true, not_true_eq_false, RegH, RefH, nO, nM, nV, nF, nL, rO, rL, rF, rN, Val.v, Val.row, irow, prow, Val.none]
        | true =>
          obtain ⟨rfl, hfv⟩ := facts.2.2.2 hlong hvv
          obtain ⟨rfl, rfl⟩ := Prod.mk.inj hfv
          simp -implicitDefEqProofs only [go_sem, Nat.reduceEqDiff, Nat.reduceAdd, Nat.reduceSub, Nat.reduceMul, Nat.reduceLeDiff, Nat.reduceLT, Nat.reduceBEq, Int.reduceToNat, Int.reduceLE, Int.reduceLT, Int.reduceEq, Int.reduceNe, Int.reduceAdd, Int.reduceSub, Int.reduceNeg, Int.toNat_natCast, reduceCtorEq, reduceIte, Nat.lt_irrefl, and_self, not_false_eq_true, not_true_eq_false, RegH, RefH, nO, nM, nV, nF, nL, rO, rL, rF, rN, Val.v, Val.row, irow, prow, Val.none, hno, hi]
          refine CallS.pureF (rValid_pure _ _ _ _ _) (by simp -implicitDefEqProofs only [go_sem, Nat.reduceEqDiff, Nat.reduceAdd, Nat.reduceSub, Nat.reduceMul, Nat.reduceLeDiff, Nat.reduceLT, Nat.reduceBEq, Int.reduceToNat, Int.reduceLE, Int.reduceLT, Int.reduceEq, Int.reduceNe, Int.reduceAdd, Int.reduceSub, Int.reduceNeg, Int.toNat_natCast, reduceCtorEq, reduceIte, Nat.lt_irrefl, and_self, not_false_eq_true, not_true_eq_false, RegH, RefH, nO, nM, nV, nF, nL, rO, rL, rF, rN, Val.v, Val.row, irow, prow, Val.none]) ?_
          simp -implicitDefEqProofs only [go_sem, Nat.reduceEqDiff, Nat.reduceAdd, Nat.reduceSub, Nat.reduceMul, Nat.reduceLeDiff, Nat.reduceLT, Nat.reduceBEq, Int.reduceToNat, Int.reduceLE, Int.reduceLT, Int.reduceEq, Int.reduceNe, Int.reduceAdd, Int.reduceSub, Int.reduceNeg, Int.toNat_natCast, reduceCtorEq, reduceIte, Nat.lt_irrefl, and_self, not_false_eq_true, not_true_eq_false, RegH, RefH, nO, nM, nV, nF, nL, rO, rL, rF, rN, Val.v, Val.row, irow, prow, Val.none, hvv]
          refine CallS.pureF lives_pure (by simp -implicitDefEqProofs only [go_sem, Nat.reduceEqDiff, Nat.reduceAdd, Nat.reduceSub, Nat.reduceMul, Nat.reduceLeDiff, Nat.reduceLT, Nat.reduceBEq, Int.reduceToNat, Int.reduceLE, Int.reduceLT, Int.reduceEq, Int.reduceNe, Int.reduceAdd, Int.reduceSub, Int.reduceNeg, Int.toNat_natCast, reduceCtorEq, reduceIte, Nat.lt_irrefl, and_self, not_false_eq_true, not_true_eq_false, RegH, RefH, nO, nM, nV, nF, nL, rO, rL, rF, rN, Val.v, Val.row, irow, prow, Val.none]) ?_
          simp -implicitDefEqProofs only [go_sem, Nat.reduceEqDiff, Nat.reduceAdd, Nat.reduceSub, Nat.reduceMul, Nat.reduceLeDiff, Nat.reduceLT, Nat.reduceBEq, Int.reduceToNat, Int.reduceLE, Int.reduceLT, Int.reduceEq, Int.reduceNe, Int.reduceAdd, Int.reduceSub, Int.reduceNeg, Int.toNat_natCast, reduceCtorEq, reduceIte, Nat.lt_irrefl, and_self, not_false_eq_true, not_true_eq_false, RegH, RefH, nO, nM, nV, nF, nL, rO, rL, rF, rN, Val.v, Val.row, irow, prow, Val.none]
  · refine CallS.pureF lives_pure (by simp -implicitDefEqProofs only [go_sem, Nat.reduceEqDiff, Nat.reduceAdd, Nat.reduceSub, Nat.reduceMul, Nat.reduceLeDiff, Nat.reduceLT, Nat.reduceBEq, Int.reduceToNat, Int.reduceLE, Int.reduceLT, Int.reduceEq, Int.reduceNe, Int.reduceAdd, Int.reduceSub, Int.reduceNeg, Int.toNat_natCast, reduceCtorEq, reduceIte, Nat.lt_irrefl, and_self, not_false_eq_true, not_true_eq_false, RegH, RefH, nO, nM, nV, nF, nL, rO, rL, rF, rN, Val.v, Val.row, irow, prow, Val.none]) ?_
    simp -implicitDefEqProofs only [go_sem, Nat.reduceEqDiff, Nat.reduceAdd, Nat.reduceSub, Nat.reduceMul, Nat.reduceLeDiff, Nat.reduceLT, Nat.reduceBEq, Int.reduceToNat, Int.reduceLE, Int.reduceLT, Int.reduceEq, Int.reduceNe, Int.reduceAdd, Int.reduceSub, Int.reduceNeg, Int.toNat_natCast, reduceCtorEq, reduceIte, Nat.lt_irrefl, and_self, not_false_eq_true, not_true_eq_false, RegH, RefH, nO, nM, nV, nF, nL, rO, rL, rF, rN, Val.v, Val.row, irow, prow, Val.none]
  · refine CallS.pureF lives_pure (by simp -implicitDefEqProofs only [go_sem, Nat.reduceEqDiff, Nat.reduceAdd, Nat.reduceSub, Nat.reduceMul, Nat.reduceLeDiff, Nat.reduceLT, Nat.reduceBEq, Int.reduceToNat, Int.reduceLE, Int.reduceLT, Int.reduceEq, Int.reduceNe, Int.reduceAdd, Int.reduceSub, Int.reduceNeg, Int.toNat_natCast, reduceCtorEq, reduceIte, Nat.lt_irrefl, and_self, not_false_eq_true, not_true_eq_false, RegH, RefH, nO, nM, nV, nF, nL, rO, rL, rF, rN, Val.v, Val.row, irow, prow, Val.none]) ?_
    simp -implicitDefEqProofs only [go_sem, Nat.reduceEqDiff, Nat.reduceAdd, Nat.reduceSub, Nat.reduceMul, Nat.reduceLeDiff, Nat.reduceLT, Nat.reduceBEq, Int.reduceToNat, Int.reduceLE, Int.reduceLT, Int.reduceEq, Int.reduceNe, Int.reduceAdd, Int.reduceSub, Int.reduceNeg, Int.toNat_natCast, reduceCtorEq, reduceIte, Nat.lt_irrefl, and_self, not_false_eq_true, not_true_eq_false, RegH, RefH, nO, nM, nV, nF, nL, rO, rL, rF, rN, Val.v, Val.row, irow, prow, Val.none]

theorem registryNames_args (es : List (List V)) (hl : es.length ≤ maxLen) (he : ∀ row ∈ es, Typed Try.prog 45 row) (name : List UInt8) (hn : name.length ≤ maxLen)
    (vs : List V) (hv : Typed Try.prog 29 vs) (other : List UInt8) (ho : other.length ≤ maxLen) :
    Pure Try.prog 5 [.isl es, .str name, .agg vs, .str other] (.bool true) := by
  obtain ⟨l, rfl⟩ := ops_of he
  obtain ⟨v, rfl⟩ := val_of hv
  exact names_pure l (by simpa using hl) name hn v other ho

end Go.Proofs.Ytnjgkcafmlmpcaa
