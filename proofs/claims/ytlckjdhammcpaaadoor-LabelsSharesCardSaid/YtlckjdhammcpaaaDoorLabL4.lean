/-
  LabelsShares. No condition.
-/
import Derived.Test.YtlckjdhammcpaaaDoorLabL3
set_option linter.unusedVariables false
set_option linter.unusedSimpArgs false
set_option maxRecDepth 100000
set_option maxHeartbeats 0
namespace Go.Proofs.YtlckjdhammcpaaaDoor
open Go.Abs
attribute [local irreducible] CallS Run
-- EV: LabH, nO, nM, nI, nP, Ins.v, Ins.row, Cal.v, Cal.row, nFC, nFL

theorem labelsShares_args (n0 : List (List V)) (l0 : n0.length ≤ maxLen) (w0 : ∀ row ∈ n0, Typed Tryd.prog 34 row) : Pure Tryd.prog 7 [.isl n0] (.bool true) := by
  obtain ⟨cs, rfl⟩ := cals_of w0
  refine Pure.of 0 (CallS.enter scriptinglaw38_LabelsShares_ok (Nat.le_of_ble_eq_true rfl) ?_)
  refine Run.go 100 ?_
  simp -implicitDefEqProofs only [go_sem, Nat.reduceEqDiff, Nat.reduceAdd, Nat.reduceSub, Nat.reduceMul, Nat.reduceLeDiff, Nat.reduceLT, Nat.reduceBEq, Int.reduceToNat, Int.reduceLE, Int.reduceLT, Int.reduceEq, Int.reduceNe, Int.reduceAdd, Int.reduceSub, Int.reduceNeg, Int.toNat_natCast, Int.cast_ofNat_Int, Int.natCast_zero, Int.natCast_one, reduceCtorEq, reduceIte, Nat.lt_irrefl, and_self, not_false_eq_true, not_true_eq_false, LabH, nO, nM, nI, nP, Ins.v, Ins.row, Cal.v, Cal.row, nFC, nFL, initSl]
  refine CallS.at [] [] (new_c _) rfl rfl ?_
  rintro r h' n' hn ⟨so, sm, si, sp, rfl, rfl⟩
  simp -implicitDefEqProofs only [go_sem, Nat.reduceEqDiff, Nat.reduceAdd, Nat.reduceSub, Nat.reduceMul, Nat.reduceLeDiff, Nat.reduceLT, Nat.reduceBEq, Int.reduceToNat, Int.reduceLE, Int.reduceLT, Int.reduceEq, Int.reduceNe, Int.reduceAdd, Int.reduceSub, Int.reduceNeg, Int.toNat_natCast, Int.cast_ofNat_Int, Int.natCast_zero, Int.natCast_one, reduceCtorEq, reduceIte, Nat.lt_irrefl, and_self, not_false_eq_true, not_true_eq_false, LabH, nO, nM, nI, nP, Ins.v, Ins.row, Cal.v, Cal.row, nFC, nFL, Lab.new]
  refine ⟨fun h => ?_, fun h => ?_⟩
  · refine CallS.pureF awake_pure (by simp -implicitDefEqProofs only [go_sem, Nat.reduceEqDiff, Nat.reduceAdd, Nat.reduceSub, Nat.reduceMul, Nat.reduceLeDiff, Nat.reduceLT, Nat.reduceBEq, Int.reduceToNat, Int.reduceLE, Int.reduceLT, Int.reduceEq, Int.reduceNe, Int.reduceAdd, Int.reduceSub, Int.reduceNeg, Int.toNat_natCast, Int.cast_ofNat_Int, Int.natCast_zero, Int.natCast_one, reduceCtorEq, reduceIte, Nat.lt_irrefl, and_self, not_false_eq_true, not_true_eq_false, LabH, nO, nM, nI, nP, Ins.v, Ins.row, Cal.v, Cal.row, nFC, nFL]) ?_
    simp -implicitDefEqProofs only [go_sem, Nat.reduceEqDiff, Nat.reduceAdd, Nat.reduceSub, Nat.reduceMul, Nat.reduceLeDiff, Nat.reduceLT, Nat.reduceBEq, Int.reduceToNat, Int.reduceLE, Int.reduceLT, Int.reduceEq, Int.reduceNe, Int.reduceAdd, Int.reduceSub, Int.reduceNeg, Int.toNat_natCast, Int.cast_ofNat_Int, Int.natCast_zero, Int.natCast_one, reduceCtorEq, reduceIte, Nat.lt_irrefl, and_self, not_false_eq_true, not_true_eq_false, LabH, nO, nM, nI, nP, Ins.v, Ins.row, Cal.v, Cal.row, nFC, nFL]
  refine Run.rounds (fun (x : Nat × (Nat × Nat) × Nat) => ⟨[(24, .int .i64 x.1), (23, .int .i64 cs.length), (3, .ptr nO so 0 0), (0, .isl (cs.map Cal.row))],
      LabH so sm x.2.1.1 x.2.1.2 (at_ cs x.1), x.2.2⟩)
    (fun x => x.1 ≤ cs.length) (fun x => cs.length - x.1) (0, (si, sp), n') (by simp -implicitDefEqProofs only [go_sem, Nat.reduceEqDiff, Nat.reduceAdd, Nat.reduceSub, Nat.reduceMul, Nat.reduceLeDiff, Nat.reduceLT, Nat.reduceBEq, Int.reduceToNat, Int.reduceLE, Int.reduceLT, Int.reduceEq, Int.reduceNe, Int.reduceAdd, Int.reduceSub, Int.reduceNeg, Int.toNat_natCast, Int.cast_ofNat_Int, Int.natCast_zero, Int.natCast_one, reduceCtorEq, reduceIte, Nat.lt_irrefl, and_self, not_false_eq_true, not_true_eq_false, LabH, nO, nM, nI, nP, Ins.v, Ins.row, Cal.v, Cal.row, nFC, nFL, at_, Lab.run, Lab.new]) (by simp only; omega) ?_
  rintro ⟨k, ⟨si, sp⟩, m⟩ hk ih
  simp only at hk ⊢
  refine Run.unf scriptinglaw38_LabelsShares_l0_eq (Run.go 100 ?_)
  simp -implicitDefEqProofs only [go_sem, Nat.reduceEqDiff, Nat.reduceAdd, Nat.reduceSub, Nat.reduceMul, Nat.reduceLeDiff, Nat.reduceLT, Nat.reduceBEq, Int.reduceToNat, Int.reduceLE, Int.reduceLT, Int.reduceEq, Int.reduceNe, Int.reduceAdd, Int.reduceSub, Int.reduceNeg, Int.toNat_natCast, Int.cast_ofNat_Int, Int.natCast_zero, Int.natCast_one, reduceCtorEq, reduceIte, Nat.lt_irrefl, and_self, not_false_eq_true, not_true_eq_false, LabH, nO, nM, nI, nP, Ins.v, Ins.row, Cal.v, Cal.row, nFC, nFL, rowszC]
  have hin := at_in cs k
  have hok := hin.ok (by omega)
  refine ⟨fun c => ⟨by omega, by omega, by omega, fun x hx => ?_⟩, fun c => ?_⟩
  · refine CallS.at [0, 1, 2, 3] [] (program_c (at_ cs k) so sm si sp _ x hok) rfl rfl ?_
    rintro r h' n' hn ⟨si', sp', rfl, rfl⟩
    simp -implicitDefEqProofs only [go_sem, Nat.reduceEqDiff, Nat.reduceAdd, Nat.reduceSub, Nat.reduceMul, Nat.reduceLeDiff, Nat.reduceLT, Nat.reduceBEq, Int.reduceToNat, Int.reduceLE, Int.reduceLT, Int.reduceEq, Int.reduceNe, Int.reduceAdd, Int.reduceSub, Int.reduceNeg, Int.toNat_natCast, Int.cast_ofNat_Int, Int.natCast_zero, Int.natCast_one, reduceCtorEq, reduceIte, Nat.lt_irrefl, and_self, not_false_eq_true, not_true_eq_false, LabH, nO, nM, nI, nP, Ins.v, Ins.row, Cal.v, Cal.row, nFC, nFL]
    have hz : ((k + 1 : Nat) : Int) = (k : Int) + 1 := by omega
    refine ⟨by omega, ih _ (k + 1, (si', sp'), n') (by simp only; omega) (by simp only; omega) ?_⟩
    simp only [hz, at_succ hx]
    simp -implicitDefEqProofs only [go_sem, Nat.reduceEqDiff, Nat.reduceAdd, Nat.reduceSub, Nat.reduceMul, Nat.reduceLeDiff, Nat.reduceLT, Nat.reduceBEq, Int.reduceToNat, Int.reduceLE, Int.reduceLT, Int.reduceEq, Int.reduceNe, Int.reduceAdd, Int.reduceSub, Int.reduceNeg, Int.toNat_natCast, Int.cast_ofNat_Int, Int.natCast_zero, Int.natCast_one, reduceCtorEq, reduceIte, Nat.lt_irrefl, and_self, not_false_eq_true, not_true_eq_false, LabH, nO, nM, nI, nP, Ins.v, Ins.row, Cal.v, Cal.row, nFC, nFL]
  clear ih
  generalize at_ cs k = L at hok
  have hI := hok.items
  obtain ⟨f1, f2⟩ := fin_len hI
  refine CallS.at [0, 1, 2, 3] [] (finish_c L so sm si sp _ hok) rfl rfl ?_
  rintro r h' n' hn hf
  unfold finH at hf
  cases hfin : L.finish with
  | none =>
    rw [hfin] at hf
    obtain ⟨rfl, rfl⟩ := hf
    have hF : L.fin = ([], [], 12) := by rw [Lab.fin, hfin]
    have s0 := same_pure [] [] (by simp) (by simp)
    simp -implicitDefEqProofs only [go_sem, Nat.reduceEqDiff, Nat.reduceAdd, Nat.reduceSub, Nat.reduceMul, Nat.reduceLeDiff, Nat.reduceLT, Nat.reduceBEq, Int.reduceToNat, Int.reduceLE, Int.reduceLT, Int.reduceEq, Int.reduceNe, Int.reduceAdd, Int.reduceSub, Int.reduceNeg, Int.toNat_natCast, Int.cast_ofNat_Int, Int.natCast_zero, Int.natCast_one, reduceCtorEq, reduceIte, Nat.lt_irrefl, and_self, not_false_eq_true, not_true_eq_false, LabH, nO, nM, nI, nP, Ins.v, Ins.row, Cal.v, Cal.row, nFC, nFL]
    refine CallS.at [0, 1, 2, 3] [] (finishD_c L so sm si sp _ hok) rfl rfl ?_
    rintro r h' n' hn ⟨rfl, rfl⟩
    rw [finV_eq, hF]
    simp -implicitDefEqProofs only [go_sem, Nat.reduceEqDiff, Nat.reduceAdd, Nat.reduceSub, Nat.reduceMul, Nat.reduceLeDiff, Nat.reduceLT, Nat.reduceBEq, Int.reduceToNat, Int.reduceLE, Int.reduceLT, Int.reduceEq, Int.reduceNe, Int.reduceAdd, Int.reduceSub, Int.reduceNeg, Int.toNat_natCast, Int.cast_ofNat_Int, Int.natCast_zero, Int.natCast_one, reduceCtorEq, reduceIte, Nat.lt_irrefl, and_self, not_false_eq_true, not_true_eq_false, LabH, nO, nM, nI, nP, Ins.v, Ins.row, Cal.v, Cal.row, nFC, nFL]
    refine CallS.pure s0 (by simp -implicitDefEqProofs only [go_sem, Nat.reduceEqDiff, Nat.reduceAdd, Nat.reduceSub, Nat.reduceMul, Nat.reduceLeDiff, Nat.reduceLT, Nat.reduceBEq, Int.reduceToNat, Int.reduceLE, Int.reduceLT, Int.reduceEq, Int.reduceNe, Int.reduceAdd, Int.reduceSub, Int.reduceNeg, Int.toNat_natCast, Int.cast_ofNat_Int, Int.natCast_zero, Int.natCast_one, reduceCtorEq, reduceIte, Nat.lt_irrefl, and_self, not_false_eq_true, not_true_eq_false, LabH, nO, nM, nI, nP, Ins.v, Ins.row, Cal.v, Cal.row, nFC, nFL]) ?_
    simp -implicitDefEqProofs only [go_sem, Nat.reduceEqDiff, Nat.reduceAdd, Nat.reduceSub, Nat.reduceMul, Nat.reduceLeDiff, Nat.reduceLT, Nat.reduceBEq, Int.reduceToNat, Int.reduceLE, Int.reduceLT, Int.reduceEq, Int.reduceNe, Int.reduceAdd, Int.reduceSub, Int.reduceNeg, Int.toNat_natCast, Int.cast_ofNat_Int, Int.natCast_zero, Int.natCast_one, reduceCtorEq, reduceIte, Nat.lt_irrefl, and_self, not_false_eq_true, not_true_eq_false, LabH, nO, nM, nI, nP, Ins.v, Ins.row, Cal.v, Cal.row, nFC, nFL]
    refine Run.rounds (fun (k : Nat) => ⟨[(66, .int .i64 0), (65, .int .i64 0), (9, .isl []), (8, .isl []), (3, .ptr nO so 0 0)], LabH so sm si sp L, n'⟩) (fun _ => True) (fun k => k) 0 (by simp -implicitDefEqProofs only [go_sem, Nat.reduceEqDiff, Nat.reduceAdd, Nat.reduceSub, Nat.reduceMul, Nat.reduceLeDiff, Nat.reduceLT, Nat.reduceBEq, Int.reduceToNat, Int.reduceLE, Int.reduceLT, Int.reduceEq, Int.reduceNe, Int.reduceAdd, Int.reduceSub, Int.reduceNeg, Int.toNat_natCast, Int.cast_ofNat_Int, Int.natCast_zero, Int.natCast_one, reduceCtorEq, reduceIte, Nat.lt_irrefl, and_self, not_false_eq_true, not_true_eq_false, LabH, nO, nM, nI, nP, Ins.v, Ins.row, Cal.v, Cal.row, nFC, nFL]) trivial ?_
    rintro k _ ih
    clear ih
    refine Run.unf scriptinglaw38_LabelsShares_l1_eq (Run.go 100 ?_)
    simp -implicitDefEqProofs only [go_sem, Nat.reduceEqDiff, Nat.reduceAdd, Nat.reduceSub, Nat.reduceMul, Nat.reduceLeDiff, Nat.reduceLT, Nat.reduceBEq, Int.reduceToNat, Int.reduceLE, Int.reduceLT, Int.reduceEq, Int.reduceNe, Int.reduceAdd, Int.reduceSub, Int.reduceNeg, Int.toNat_natCast, Int.cast_ofNat_Int, Int.natCast_zero, Int.natCast_one, reduceCtorEq, reduceIte, Nat.lt_irrefl, and_self, not_false_eq_true, not_true_eq_false, LabH, nO, nM, nI, nP, Ins.v, Ins.row, Cal.v, Cal.row, nFC, nFL]
    refine CallS.at [0, 1, 2, 3] [] (finishD_c L so sm si sp _ hok) rfl rfl ?_
    rintro r h' n' hn ⟨rfl, rfl⟩
    rw [finV_eq, hF]
    simp -implicitDefEqProofs only [go_sem, Nat.reduceEqDiff, Nat.reduceAdd, Nat.reduceSub, Nat.reduceMul, Nat.reduceLeDiff, Nat.reduceLT, Nat.reduceBEq, Int.reduceToNat, Int.reduceLE, Int.reduceLT, Int.reduceEq, Int.reduceNe, Int.reduceAdd, Int.reduceSub, Int.reduceNeg, Int.toNat_natCast, Int.cast_ofNat_Int, Int.natCast_zero, Int.natCast_one, reduceCtorEq, reduceIte, Nat.lt_irrefl, and_self, not_false_eq_true, not_true_eq_false, LabH, nO, nM, nI, nP, Ins.v, Ins.row, Cal.v, Cal.row, nFC, nFL]
    refine CallS.pure s0 (by simp -implicitDefEqProofs only [go_sem, Nat.reduceEqDiff, Nat.reduceAdd, Nat.reduceSub, Nat.reduceMul, Nat.reduceLeDiff, Nat.reduceLT, Nat.reduceBEq, Int.reduceToNat, Int.reduceLE, Int.reduceLT, Int.reduceEq, Int.reduceNe, Int.reduceAdd, Int.reduceSub, Int.reduceNeg, Int.toNat_natCast, Int.cast_ofNat_Int, Int.natCast_zero, Int.natCast_one, reduceCtorEq, reduceIte, Nat.lt_irrefl, and_self, not_false_eq_true, not_true_eq_false, LabH, nO, nM, nI, nP, Ins.v, Ins.row, Cal.v, Cal.row, nFC, nFL]) ?_
    simp -implicitDefEqProofs only [go_sem, Nat.reduceEqDiff, Nat.reduceAdd, Nat.reduceSub, Nat.reduceMul, Nat.reduceLeDiff, Nat.reduceLT, Nat.reduceBEq, Int.reduceToNat, Int.reduceLE, Int.reduceLT, Int.reduceEq, Int.reduceNe, Int.reduceAdd, Int.reduceSub, Int.reduceNeg, Int.toNat_natCast, Int.cast_ofNat_Int, Int.natCast_zero, Int.natCast_one, reduceCtorEq, reduceIte, Nat.lt_irrefl, and_self, not_false_eq_true, not_true_eq_false, LabH, nO, nM, nI, nP, Ins.v, Ins.row, Cal.v, Cal.row, nFC, nFL]
    refine CallS.pureF awake_pure (by simp -implicitDefEqProofs only [go_sem, Nat.reduceEqDiff, Nat.reduceAdd, Nat.reduceSub, Nat.reduceMul, Nat.reduceLeDiff, Nat.reduceLT, Nat.reduceBEq, Int.reduceToNat, Int.reduceLE, Int.reduceLT, Int.reduceEq, Int.reduceNe, Int.reduceAdd, Int.reduceSub, Int.reduceNeg, Int.toNat_natCast, Int.cast_ofNat_Int, Int.natCast_zero, Int.natCast_one, reduceCtorEq, reduceIte, Nat.lt_irrefl, and_self, not_false_eq_true, not_true_eq_false, LabH, nO, nM, nI, nP, Ins.v, Ins.row, Cal.v, Cal.row, nFC, nFL]) ?_
    simp -implicitDefEqProofs only [go_sem, Nat.reduceEqDiff, Nat.reduceAdd, Nat.reduceSub, Nat.reduceMul, Nat.reduceLeDiff, Nat.reduceLT, Nat.reduceBEq, Int.reduceToNat, Int.reduceLE, Int.reduceLT, Int.reduceEq, Int.reduceNe, Int.reduceAdd, Int.reduceSub, Int.reduceNeg, Int.toNat_natCast, Int.cast_ofNat_Int, Int.natCast_zero, Int.natCast_one, reduceCtorEq, reduceIte, Nat.lt_irrefl, and_self, not_false_eq_true, not_true_eq_false, LabH, nO, nM, nI, nP, Ins.v, Ins.row, Cal.v, Cal.row, nFC, nFL]
  | some ys =>
    rw [hfin] at hf
    obtain ⟨s1, s2, rfl, rfl⟩ := hf
    have hF : L.fin = (ys, L.items, 0) := by rw [Lab.fin, hfin]
    have hl := fixes_len L _ _ hfin
    rw [hF] at f1 f2
    simp -implicitDefEqProofs only [go_sem, Nat.reduceEqDiff, Nat.reduceAdd, Nat.reduceSub, Nat.reduceMul, Nat.reduceLeDiff, Nat.reduceLT, Nat.reduceBEq, Int.reduceToNat, Int.reduceLE, Int.reduceLT, Int.reduceEq, Int.reduceNe, Int.reduceAdd, Int.reduceSub, Int.reduceNeg, Int.toNat_natCast, Int.cast_ofNat_Int, Int.natCast_zero, Int.natCast_one, reduceCtorEq, reduceIte, Nat.lt_irrefl, and_self, not_false_eq_true, not_true_eq_false, LabH, nO, nM, nI, nP, Ins.v, Ins.row, Cal.v, Cal.row, nFC, nFL]
    refine CallS.at [2, 3, 4, 5] [0, 1] (finishD_c L so sm si sp _ hok) rfl rfl ?_
    rintro r h' n' hn ⟨rfl, rfl⟩
    rw [finV_eq, hF]
    simp -implicitDefEqProofs only [go_sem, Nat.reduceEqDiff, Nat.reduceAdd, Nat.reduceSub, Nat.reduceMul, Nat.reduceLeDiff, Nat.reduceLT, Nat.reduceBEq, Int.reduceToNat, Int.reduceLE, Int.reduceLT, Int.reduceEq, Int.reduceNe, Int.reduceAdd, Int.reduceSub, Int.reduceNeg, Int.toNat_natCast, Int.cast_ofNat_Int, Int.natCast_zero, Int.natCast_one, reduceCtorEq, reduceIte, Nat.lt_irrefl, and_self, not_false_eq_true, not_true_eq_false, LabH, nO, nM, nI, nP, Ins.v, Ins.row, Cal.v, Cal.row, nFC, nFL]
    have t1 : (ys.map Ins.row).take L.items.length = ys.map Ins.row := List.take_of_length_le (by simp; omega)
    have hln : (L.items.map fun x => [V.int .i64 x.line]) = L.items.map lineR := rfl
    rw [hln]
    refine CallS.view (same_pure ys L.items f1 f2) 1 (by simp -implicitDefEqProofs only [go_sem, Nat.reduceEqDiff, Nat.reduceAdd, Nat.reduceSub, Nat.reduceMul, Nat.reduceLeDiff, Nat.reduceLT, Nat.reduceBEq, Int.reduceToNat, Int.reduceLE, Int.reduceLT, Int.reduceEq, Int.reduceNe, Int.reduceAdd, Int.reduceSub, Int.reduceNeg, Int.toNat_natCast, Int.cast_ofNat_Int, Int.natCast_zero, Int.natCast_one, reduceCtorEq, reduceIte, Nat.lt_irrefl, and_self, not_false_eq_true, not_true_eq_false, LabH, nO, nM, nI, nP, Ins.v, Ins.row, Cal.v, Cal.row, nFC, nFL, frzI, frzL, t1, hl]) rfl ?_
    simp -implicitDefEqProofs only [go_sem, Nat.reduceEqDiff, Nat.reduceAdd, Nat.reduceSub, Nat.reduceMul, Nat.reduceLeDiff, Nat.reduceLT, Nat.reduceBEq, Int.reduceToNat, Int.reduceLE, Int.reduceLT, Int.reduceEq, Int.reduceNe, Int.reduceAdd, Int.reduceSub, Int.reduceNeg, Int.toNat_natCast, Int.cast_ofNat_Int, Int.natCast_zero, Int.natCast_one, reduceCtorEq, reduceIte, Nat.lt_irrefl, and_self, not_false_eq_true, not_true_eq_false, LabH, nO, nM, nI, nP, Ins.v, Ins.row, Cal.v, Cal.row, nFC, nFL, hln]
    refine Run.rounds (fun (x : Nat × List (List V) × List (List V)) => ⟨[(66, .int .i64 x.1), (65, .int .i64 L.items.length), (9, .isl (L.items.map lineR)), (8, .isl (ys.map Ins.row)), (6, .sl nFL s2 0 L.items.length), (5, .sl nFC s1 0 L.items.length), (3, .ptr nO so 0 0)],
        LabH so sm si sp L ++ [(nFC, s1, .rows 5 x.2.1), (nFL, s2, .rows 1 x.2.2)], n'⟩)
      (fun x => x.1 ≤ L.items.length ∧ x.2.1.length = L.items.length ∧ x.2.2.length = L.items.length ∧ (∀ r ∈ x.2.1, r.length = 5) ∧ (∀ r ∈ x.2.2, r.length = 1)) (fun x => L.items.length - x.1) (0, ys.map Ins.row, L.items.map lineR) (by simp -implicitDefEqProofs only [go_sem, Nat.reduceEqDiff, Nat.reduceAdd, Nat.reduceSub, Nat.reduceMul, Nat.reduceLeDiff, Nat.reduceLT, Nat.reduceBEq, Int.reduceToNat, Int.reduceLE, Int.reduceLT, Int.reduceEq, Int.reduceNe, Int.reduceAdd, Int.reduceSub, Int.reduceNeg, Int.toNat_natCast, Int.cast_ofNat_Int, Int.natCast_zero, Int.natCast_one, reduceCtorEq, reduceIte, Nat.lt_irrefl, and_self, not_false_eq_true, not_true_eq_false, LabH, nO, nM, nI, nP, Ins.v, Ins.row, Cal.v, Cal.row, nFC, nFL]) ⟨by omega, by simpa using hl, by simp, ?_, ?_⟩ ?_
    · intro r hr; obtain ⟨y, _, rfl⟩ := List.mem_map.1 hr; rfl
    · intro r hr; obtain ⟨y, _, rfl⟩ := List.mem_map.1 hr; rfl
    rintro ⟨k, r1, r2⟩ ⟨hk, h1, h2, h3, h4⟩ ih
    simp only at hk h1 h2 h3 h4 ⊢
    refine Run.unf scriptinglaw38_LabelsShares_l1_eq (Run.go 100 ?_)
    simp -implicitDefEqProofs only [go_sem, Nat.reduceEqDiff, Nat.reduceAdd, Nat.reduceSub, Nat.reduceMul, Nat.reduceLeDiff, Nat.reduceLT, Nat.reduceBEq, Int.reduceToNat, Int.reduceLE, Int.reduceLT, Int.reduceEq, Int.reduceNe, Int.reduceAdd, Int.reduceSub, Int.reduceNeg, Int.toNat_natCast, Int.cast_ofNat_Int, Int.natCast_zero, Int.natCast_one, reduceCtorEq, reduceIte, Nat.lt_irrefl, and_self, not_false_eq_true, not_true_eq_false, LabH, nO, nM, nI, nP, Ins.v, Ins.row, Cal.v, Cal.row, nFC, nFL]
    refine ⟨fun c => ⟨by omega, by omega, by omega, fun a ha => ?_⟩, fun c => ?_⟩
    · have la := h3 a (List.mem_of_getElem? ha)
      refine ⟨by omega, by omega, by omega, by omega, fun b hb => ?_⟩
      have lb := h4 b (List.mem_of_getElem? hb)
      have hz : ((k + 1 : Nat) : Int) = (k : Int) + 1 := by omega
      refine ⟨by omega, by omega, ih _ (k + 1, r1.set k (.int .i64 77 :: .int .i64 0 :: .int .i64 0 :: .int .i64 0 :: .int .i64 0 :: a.drop 5), r2.set k (.int .i64 77 :: b.drop 1)) ⟨by simp only; omega, by simpa using h1, by simpa using h2, fun r hr => ?_, fun r hr => ?_⟩ (by simp only; omega) ?_⟩
      · rcases List.mem_or_eq_of_mem_set hr with hr | rfl
        · exact h3 r hr
        · simp [la]
      · rcases List.mem_or_eq_of_mem_set hr with hr | rfl
        · exact h4 r hr
        · simp [lb]
      · simp only [hz]
        simp -implicitDefEqProofs only [go_sem, Nat.reduceEqDiff, Nat.reduceAdd, Nat.reduceSub, Nat.reduceMul, Nat.reduceLeDiff, Nat.reduceLT, Nat.reduceBEq, Int.reduceToNat, Int.reduceLE, Int.reduceLT, Int.reduceEq, Int.reduceNe, Int.reduceAdd, Int.reduceSub, Int.reduceNeg, Int.toNat_natCast, Int.cast_ofNat_Int, Int.natCast_zero, Int.natCast_one, reduceCtorEq, reduceIte, Nat.lt_irrefl, and_self, not_false_eq_true, not_true_eq_false, LabH, nO, nM, nI, nP, Ins.v, Ins.row, Cal.v, Cal.row, nFC, nFL]
    · clear ih
      refine CallS.at [0, 1, 2, 3] [4, 5] (finishD_c L so sm si sp _ hok) rfl rfl ?_
      rintro r h' n' hn ⟨rfl, rfl⟩
      rw [finV_eq, hF]
      simp -implicitDefEqProofs only [go_sem, Nat.reduceEqDiff, Nat.reduceAdd, Nat.reduceSub, Nat.reduceMul, Nat.reduceLeDiff, Nat.reduceLT, Nat.reduceBEq, Int.reduceToNat, Int.reduceLE, Int.reduceLT, Int.reduceEq, Int.reduceNe, Int.reduceAdd, Int.reduceSub, Int.reduceNeg, Int.toNat_natCast, Int.cast_ofNat_Int, Int.natCast_zero, Int.natCast_one, reduceCtorEq, reduceIte, Nat.lt_irrefl, and_self, not_false_eq_true, not_true_eq_false, LabH, nO, nM, nI, nP, Ins.v, Ins.row, Cal.v, Cal.row, nFC, nFL]
      refine CallS.pureF (same_pure ys L.items f1 f2) (by simp -implicitDefEqProofs only [go_sem, Nat.reduceEqDiff, Nat.reduceAdd, Nat.reduceSub, Nat.reduceMul, Nat.reduceLeDiff, Nat.reduceLT, Nat.reduceBEq, Int.reduceToNat, Int.reduceLE, Int.reduceLT, Int.reduceEq, Int.reduceNe, Int.reduceAdd, Int.reduceSub, Int.reduceNeg, Int.toNat_natCast, Int.cast_ofNat_Int, Int.natCast_zero, Int.natCast_one, reduceCtorEq, reduceIte, Nat.lt_irrefl, and_self, not_false_eq_true, not_true_eq_false, LabH, nO, nM, nI, nP, Ins.v, Ins.row, Cal.v, Cal.row, nFC, nFL, subI, subL]) ?_
      simp -implicitDefEqProofs only [go_sem, Nat.reduceEqDiff, Nat.reduceAdd, Nat.reduceSub, Nat.reduceMul, Nat.reduceLeDiff, Nat.reduceLT, Nat.reduceBEq, Int.reduceToNat, Int.reduceLE, Int.reduceLT, Int.reduceEq, Int.reduceNe, Int.reduceAdd, Int.reduceSub, Int.reduceNeg, Int.toNat_natCast, Int.cast_ofNat_Int, Int.natCast_zero, Int.natCast_one, reduceCtorEq, reduceIte, Nat.lt_irrefl, and_self, not_false_eq_true, not_true_eq_false, LabH, nO, nM, nI, nP, Ins.v, Ins.row, Cal.v, Cal.row, nFC, nFL]
      refine CallS.pureF awake_pure (by simp -implicitDefEqProofs only [go_sem, Nat.reduceEqDiff, Nat.reduceAdd, Nat.reduceSub, Nat.reduceMul, Nat.reduceLeDiff, Nat.reduceLT, Nat.reduceBEq, Int.reduceToNat, Int.reduceLE, Int.reduceLT, Int.reduceEq, Int.reduceNe, Int.reduceAdd, Int.reduceSub, Int.reduceNeg, Int.toNat_natCast, Int.cast_ofNat_Int, Int.natCast_zero, Int.natCast_one, reduceCtorEq, reduceIte, Nat.lt_irrefl, and_self, not_false_eq_true, not_true_eq_false, LabH, nO, nM, nI, nP, Ins.v, Ins.row, Cal.v, Cal.row, nFC, nFL]) ?_
      simp -implicitDefEqProofs only [go_sem, Nat.reduceEqDiff, Nat.reduceAdd, Nat.reduceSub, Nat.reduceMul, Nat.reduceLeDiff, Nat.reduceLT, Nat.reduceBEq, Int.reduceToNat, Int.reduceLE, Int.reduceLT, Int.reduceEq, Int.reduceNe, Int.reduceAdd, Int.reduceSub, Int.reduceNeg, Int.toNat_natCast, Int.cast_ofNat_Int, Int.natCast_zero, Int.natCast_one, reduceCtorEq, reduceIte, Nat.lt_irrefl, and_self, not_false_eq_true, not_true_eq_false, LabH, nO, nM, nI, nP, Ins.v, Ins.row, Cal.v, Cal.row, nFC, nFL]
end Go.Proofs.YtlckjdhammcpaaaDoor
