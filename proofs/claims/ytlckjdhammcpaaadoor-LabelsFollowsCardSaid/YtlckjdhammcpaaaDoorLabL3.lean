/-
  LabelsStraight. No condition.
-/
import Derived.Test.YtlckjdhammcpaaaDoorLabL2
set_option linter.unusedVariables false
set_option linter.unusedSimpArgs false
set_option maxRecDepth 100000
set_option maxHeartbeats 0
namespace Go.Proofs.YtlckjdhammcpaaaDoor
open Go.Abs
attribute [local irreducible] CallS Run
-- EV: LabH, nO, nM, nI, nP, Ins.v, Ins.row, Cal.v, Cal.row

theorem inss_of {es : List (List V)} (h : ∀ row ∈ es, Typed Tryd.prog 32 row) : ∃ is : List Ins, es = is.map Ins.row := by
  obtain ⟨is, h1, _⟩ := rows_map (f := Ins.row) (p := fun _ => True) (es := es) fun row hr => by obtain ⟨c, h⟩ := ins_of (h row hr); exact ⟨c, h, trivial⟩
  exact ⟨is, h1⟩

theorem frzI (d : Nat) (h : Heap) (ys : List Ins) : (ys.map Ins.row).map (fun r => r.map (frz d h)) = ys.map Ins.row := by
  rw [List.map_map]
  exact List.map_congr_left fun y _ => by simp [Ins.row, frz_int]
theorem frzL (d : Nat) (h : Heap) (ls : List Itm) : (ls.map lineR).map (fun r => r.map (frz d h)) = ls.map lineR := by
  rw [List.map_map]
  exact List.map_congr_left fun y _ => by simp [lineR, frz_int]
theorem codeR_eq (ls : List Itm) : ls.map codeR = (ls.map (·.i)).map Ins.row := by rw [List.map_map]; rfl

def emitCal (line : Int) (i : Ins) : Cal := ⟨0, i, line, 0⟩

theorem emit_ok {L : Lab} {i : Ins} {line : Int} (h : (L.emit i line).2.1 = 0) : chk i = 0 ∧ 0 ≤ line ∧ L.emit i line = L.add i line (-1) := by
  revert h
  unfold Lab.emit
  split
  · rename_i h1; intro h; exact absurd h h1
  split
  · intro h; simp at h
  · intro _; exact ⟨by omega, by omega, rfl⟩

theorem straight_at (line : Int) (is : List Ins) : ∀ k, ∀ x ∈ (at_ (is.map (emitCal line)) k).items, x.label = -1
  | 0, x, h => by simp [at_, Lab.run, Lab.new] at h
  | k + 1, x, h => by
    cases hc : (is.map (emitCal line))[k]? with
    | none =>
      have : at_ (is.map (emitCal line)) (k + 1) = at_ (is.map (emitCal line)) k := by unfold at_; rw [List.take_add_one, hc]; simp
      rw [this] at h
      exact straight_at line is k x h
    | some c =>
      rw [at_succ hc] at h
      obtain ⟨i, hi, rfl⟩ : ∃ i, is[k]? = some i ∧ emitCal line i = c := by simpa [List.getElem?_map] using hc
      have e : (at_ (is.map (emitCal line)) k).call (emitCal line i) = (at_ (is.map (emitCal line)) k).emit i line := by rw [Lab.call, if_pos (show (emitCal line i).kind = 0 from rfl)]; rfl
      rw [e] at h
      by_cases h0 : ((at_ (is.map (emitCal line)) k).emit i line).2.1 = 0
      · rw [(emit_ok h0).2.2] at h
        rcases List.mem_append.1 h with h | h
        · exact straight_at line is k x h
        · rw [List.mem_singleton.1 h]
      · rw [← e] at h0 h
        rw [call_err h0] at h
        exact straight_at line is k x h

theorem straight_fin {L : Lab} (h : ∀ x ∈ L.items, x.label = -1) : L.fin = (L.items.map (·.i), L.items, 0) := by
  have : ∀ l : List Itm, (∀ x ∈ l, x.label = -1) → L.fixes l = some (l.map (·.i)) := by
    intro l
    induction l with
    | nil => intro _; rfl
    | cons x r ih =>
      intro h
      have hx : L.fix x = some x.i := by rw [Lab.fix, if_neg (by rw [h x List.mem_cons_self]; omega)]
      rw [Lab.fixes, hx, ih fun y hy => h y (List.mem_cons_of_mem _ hy)]
      rfl
  rw [Lab.fin, Lab.finish, this _ h]

theorem labelsStraight_args (n0 : List (List V)) (l0 : n0.length ≤ maxLen) (w0 : ∀ row ∈ n0, Typed Tryd.prog 32 row) (line : Int) (wl : (Lit.int .i64 line).wf = true) :
    Pure Tryd.prog 6 [.isl n0, .int .i64 line] (.bool true) := by
  obtain ⟨is, rfl⟩ := inss_of w0
  refine Pure.of 0 (CallS.enter scriptinglaw38_LabelsStraight_ok (Nat.le_of_ble_eq_true rfl) ?_)
  refine Run.go 100 ?_
  simp -implicitDefEqProofs only [go_sem, Nat.reduceEqDiff, Nat.reduceAdd, Nat.reduceSub, Nat.reduceMul, Nat.reduceLeDiff, Nat.reduceLT, Nat.reduceBEq, Int.reduceToNat, Int.reduceLE, Int.reduceLT, Int.reduceEq, Int.reduceNe, Int.reduceAdd, Int.reduceSub, Int.reduceNeg, Int.toNat_natCast, Int.cast_ofNat_Int, Int.natCast_zero, Int.natCast_one, reduceCtorEq, reduceIte, Nat.lt_irrefl, and_self, not_false_eq_true, not_true_eq_false, LabH, nO, nM, nI, nP, Ins.v, Ins.row, Cal.v, Cal.row, initSl]
  refine CallS.at [] [] (new_c _) rfl rfl ?_
  rintro r h' n' hn ⟨so, sm, si, sp, rfl, rfl⟩
  simp -implicitDefEqProofs only [go_sem, Nat.reduceEqDiff, Nat.reduceAdd, Nat.reduceSub, Nat.reduceMul, Nat.reduceLeDiff, Nat.reduceLT, Nat.reduceBEq, Int.reduceToNat, Int.reduceLE, Int.reduceLT, Int.reduceEq, Int.reduceNe, Int.reduceAdd, Int.reduceSub, Int.reduceNeg, Int.toNat_natCast, Int.cast_ofNat_Int, Int.natCast_zero, Int.natCast_one, reduceCtorEq, reduceIte, Nat.lt_irrefl, and_self, not_false_eq_true, not_true_eq_false, LabH, nO, nM, nI, nP, Ins.v, Ins.row, Cal.v, Cal.row, Lab.new]
  refine ⟨fun h => ?_, fun h => ?_⟩
  · refine CallS.pureF awake_pure (by simp -implicitDefEqProofs only [go_sem, Nat.reduceEqDiff, Nat.reduceAdd, Nat.reduceSub, Nat.reduceMul, Nat.reduceLeDiff, Nat.reduceLT, Nat.reduceBEq, Int.reduceToNat, Int.reduceLE, Int.reduceLT, Int.reduceEq, Int.reduceNe, Int.reduceAdd, Int.reduceSub, Int.reduceNeg, Int.toNat_natCast, Int.cast_ofNat_Int, Int.natCast_zero, Int.natCast_one, reduceCtorEq, reduceIte, Nat.lt_irrefl, and_self, not_false_eq_true, not_true_eq_false, LabH, nO, nM, nI, nP, Ins.v, Ins.row, Cal.v, Cal.row]) ?_
    simp -implicitDefEqProofs only [go_sem, Nat.reduceEqDiff, Nat.reduceAdd, Nat.reduceSub, Nat.reduceMul, Nat.reduceLeDiff, Nat.reduceLT, Nat.reduceBEq, Int.reduceToNat, Int.reduceLE, Int.reduceLT, Int.reduceEq, Int.reduceNe, Int.reduceAdd, Int.reduceSub, Int.reduceNeg, Int.toNat_natCast, Int.cast_ofNat_Int, Int.natCast_zero, Int.natCast_one, reduceCtorEq, reduceIte, Nat.lt_irrefl, and_self, not_false_eq_true, not_true_eq_false, LabH, nO, nM, nI, nP, Ins.v, Ins.row, Cal.v, Cal.row]
  have hcs : ∀ k i, is[k]? = some i → (is.map (emitCal line))[k]? = some (emitCal line i) := fun k i h => by rw [List.getElem?_map, h]; rfl
  generalize hC : is.map (emitCal line) = cs at hcs
  refine Run.rounds (fun (x : Nat × (Nat × Nat) × (Nat × Nat) × Nat) => ⟨[(26, .int .i64 x.1), (25, .int .i64 is.length), (7, .sl (6 * 10000 + 23) x.2.2.1.2 0 (at_ cs x.1).items.length), (6, .sl (6 * 10000 + 22) x.2.2.1.1 0 (at_ cs x.1).items.length), (5, .ptr nO so 0 0), (1, .int .i64 line), (0, .isl (is.map Ins.row))],
      [((6 * 10000 + 23), x.2.2.1.2, .rows 1 ((at_ cs x.1).items.map lineR)), ((6 * 10000 + 22), x.2.2.1.1, .rows 5 ((at_ cs x.1).items.map codeR))] ++ LabH so sm x.2.1.1 x.2.1.2 (at_ cs x.1), x.2.2.2⟩)
    (fun x => x.1 ≤ is.length) (fun x => is.length - x.1) (0, (si, sp), (n', n' + 1), n' + 1 + 1) (by simp -implicitDefEqProofs only [go_sem, Nat.reduceEqDiff, Nat.reduceAdd, Nat.reduceSub, Nat.reduceMul, Nat.reduceLeDiff, Nat.reduceLT, Nat.reduceBEq, Int.reduceToNat, Int.reduceLE, Int.reduceLT, Int.reduceEq, Int.reduceNe, Int.reduceAdd, Int.reduceSub, Int.reduceNeg, Int.toNat_natCast, Int.cast_ofNat_Int, Int.natCast_zero, Int.natCast_one, reduceCtorEq, reduceIte, Nat.lt_irrefl, and_self, not_false_eq_true, not_true_eq_false, LabH, nO, nM, nI, nP, Ins.v, Ins.row, Cal.v, Cal.row, at_, Lab.run, Lab.new]) (by simp only; omega) ?_
  rintro ⟨k, ⟨si, sp⟩, ⟨s1, s2⟩, m⟩ hk ih
  simp only at hk ⊢
  refine Run.unf scriptinglaw38_LabelsStraight_l0_eq (Run.go 100 ?_)
  simp -implicitDefEqProofs only [go_sem, Nat.reduceEqDiff, Nat.reduceAdd, Nat.reduceSub, Nat.reduceMul, Nat.reduceLeDiff, Nat.reduceLT, Nat.reduceBEq, Int.reduceToNat, Int.reduceLE, Int.reduceLT, Int.reduceEq, Int.reduceNe, Int.reduceAdd, Int.reduceSub, Int.reduceNeg, Int.toNat_natCast, Int.cast_ofNat_Int, Int.natCast_zero, Int.natCast_one, reduceCtorEq, reduceIte, Nat.lt_irrefl, and_self, not_false_eq_true, not_true_eq_false, LabH, nO, nM, nI, nP, Ins.v, Ins.row, Cal.v, Cal.row, rowszI]
  have hin := at_in cs k
  have hok := hin.ok (by omega)
  refine ⟨fun c => ?_, fun c => ?_⟩
  · obtain ⟨i, hi⟩ : ∃ i, is[k]? = some i := ⟨is[k]'(by omega), by simp⟩
    have hx := hcs k i hi
    have hin' := at_in cs (k + 1)
    rw [at_succ hx] at hin'
    have hz : ((k + 1 : Nat) : Int) = (k : Int) + 1 := by omega
    have e : (at_ cs k).call (emitCal line i) = (at_ cs k).emit i line := by rw [Lab.call, if_pos (show (emitCal line i).kind = 0 from rfl)]; rfl
    have hI := hok.items
    simp -implicitDefEqProofs only [go_sem, Nat.reduceEqDiff, Nat.reduceAdd, Nat.reduceSub, Nat.reduceMul, Nat.reduceLeDiff, Nat.reduceLT, Nat.reduceBEq, Int.reduceToNat, Int.reduceLE, Int.reduceLT, Int.reduceEq, Int.reduceNe, Int.reduceAdd, Int.reduceSub, Int.reduceNeg, Int.toNat_natCast, Int.cast_ofNat_Int, Int.natCast_zero, Int.natCast_one, reduceCtorEq, reduceIte, Nat.lt_irrefl, and_self, not_false_eq_true, not_true_eq_false, LabH, nO, nM, nI, nP, Ins.v, Ins.row, Cal.v, Cal.row, hi, Option.some.injEq, forall_eq']
    refine ⟨by omega, by omega, by omega, ?_⟩
    refine CallS.at [2, 3, 4, 5] [0, 1] (emit_c (at_ cs k) so sm si sp _ i line hI) rfl rfl ?_
    rintro r h' n' hn ⟨si', rfl, rfl⟩
    simp -implicitDefEqProofs only [go_sem, Nat.reduceEqDiff, Nat.reduceAdd, Nat.reduceSub, Nat.reduceMul, Nat.reduceLeDiff, Nat.reduceLT, Nat.reduceBEq, Int.reduceToNat, Int.reduceLE, Int.reduceLT, Int.reduceEq, Int.reduceNe, Int.reduceAdd, Int.reduceSub, Int.reduceNeg, Int.toNat_natCast, Int.cast_ofNat_Int, Int.natCast_zero, Int.natCast_one, reduceCtorEq, reduceIte, Nat.lt_irrefl, and_self, not_false_eq_true, not_true_eq_false, LabH, nO, nM, nI, nP, Ins.v, Ins.row, Cal.v, Cal.row, rowszI, hi, Option.some.injEq, forall_eq']
    refine ⟨by omega, by omega, by omega, ?_⟩
    refine CallS.pureF (check_pure i) (by simp -implicitDefEqProofs only [go_sem, Nat.reduceEqDiff, Nat.reduceAdd, Nat.reduceSub, Nat.reduceMul, Nat.reduceLeDiff, Nat.reduceLT, Nat.reduceBEq, Int.reduceToNat, Int.reduceLE, Int.reduceLT, Int.reduceEq, Int.reduceNe, Int.reduceAdd, Int.reduceSub, Int.reduceNeg, Int.toNat_natCast, Int.cast_ofNat_Int, Int.natCast_zero, Int.natCast_one, reduceCtorEq, reduceIte, Nat.lt_irrefl, and_self, not_false_eq_true, not_true_eq_false, LabH, nO, nM, nI, nP, Ins.v, Ins.row, Cal.v, Cal.row]) ?_
    simp -implicitDefEqProofs only [go_sem, Nat.reduceEqDiff, Nat.reduceAdd, Nat.reduceSub, Nat.reduceMul, Nat.reduceLeDiff, Nat.reduceLT, Nat.reduceBEq, Int.reduceToNat, Int.reduceLE, Int.reduceLT, Int.reduceEq, Int.reduceNe, Int.reduceAdd, Int.reduceSub, Int.reduceNeg, Int.toNat_natCast, Int.cast_ofNat_Int, Int.natCast_zero, Int.natCast_one, reduceCtorEq, reduceIte, Nat.lt_irrefl, and_self, not_false_eq_true, not_true_eq_false, LabH, nO, nM, nI, nP, Ins.v, Ins.row, Cal.v, Cal.row, rowszI, hi, Option.some.injEq, forall_eq']
    have hs := at_succ hx
    rw [e] at hs
    by_cases h1 : chk i = 0
    · by_cases h2 : line < 0
      · have e2 : (at_ cs k).emit i line = (0, 2, at_ cs k) := by rw [Lab.emit, if_neg (by omega), if_pos h2]
        rw [e2] at hs ⊢
        simp -implicitDefEqProofs only [go_sem, Nat.reduceEqDiff, Nat.reduceAdd, Nat.reduceSub, Nat.reduceMul, Nat.reduceLeDiff, Nat.reduceLT, Nat.reduceBEq, Int.reduceToNat, Int.reduceLE, Int.reduceLT, Int.reduceEq, Int.reduceNe, Int.reduceAdd, Int.reduceSub, Int.reduceNeg, Int.toNat_natCast, Int.cast_ofNat_Int, Int.natCast_zero, Int.natCast_one, reduceCtorEq, reduceIte, Nat.lt_irrefl, and_self, not_false_eq_true, not_true_eq_false, LabH, nO, nM, nI, nP, Ins.v, Ins.row, Cal.v, Cal.row, h1, h2]
        refine ⟨by omega, ih _ (k + 1, (si', sp), (s1, s2), n') (by simp only; omega) (by simp only; omega) ?_⟩
        simp only [hz, hs]
        simp -implicitDefEqProofs only [go_sem, Nat.reduceEqDiff, Nat.reduceAdd, Nat.reduceSub, Nat.reduceMul, Nat.reduceLeDiff, Nat.reduceLT, Nat.reduceBEq, Int.reduceToNat, Int.reduceLE, Int.reduceLT, Int.reduceEq, Int.reduceNe, Int.reduceAdd, Int.reduceSub, Int.reduceNeg, Int.toNat_natCast, Int.cast_ofNat_Int, Int.natCast_zero, Int.natCast_one, reduceCtorEq, reduceIte, Nat.lt_irrefl, and_self, not_false_eq_true, not_true_eq_false, LabH, nO, nM, nI, nP, Ins.v, Ins.row, Cal.v, Cal.row]
      · have e2 : (at_ cs k).emit i line = (at_ cs k).add i line (-1) := by rw [Lab.emit, if_neg (by omega), if_neg h2]
        rw [e2] at hs ⊢
        simp -implicitDefEqProofs only [go_sem, Nat.reduceEqDiff, Nat.reduceAdd, Nat.reduceSub, Nat.reduceMul, Nat.reduceLeDiff, Nat.reduceLT, Nat.reduceBEq, Int.reduceToNat, Int.reduceLE, Int.reduceLT, Int.reduceEq, Int.reduceNe, Int.reduceAdd, Int.reduceSub, Int.reduceNeg, Int.toNat_natCast, Int.cast_ofNat_Int, Int.natCast_zero, Int.natCast_one, reduceCtorEq, reduceIte, Nat.lt_irrefl, and_self, not_false_eq_true, not_true_eq_false, LabH, nO, nM, nI, nP, Ins.v, Ins.row, Cal.v, Cal.row, h1, h2, Lab.add]
        refine ⟨by omega, by omega, by omega, by omega, by omega, by omega, ih _ (k + 1, (si', sp), (n', n' + 1), n' + 1 + 1) (by simp only; omega) (by simp only; omega) ?_⟩
        simp only [hz, hs, Lab.add, List.map_append, List.map_cons, List.map_nil, codeR, lineR]
        simp -implicitDefEqProofs only [go_sem, Nat.reduceEqDiff, Nat.reduceAdd, Nat.reduceSub, Nat.reduceMul, Nat.reduceLeDiff, Nat.reduceLT, Nat.reduceBEq, Int.reduceToNat, Int.reduceLE, Int.reduceLT, Int.reduceEq, Int.reduceNe, Int.reduceAdd, Int.reduceSub, Int.reduceNeg, Int.toNat_natCast, Int.cast_ofNat_Int, Int.natCast_zero, Int.natCast_one, reduceCtorEq, reduceIte, Nat.lt_irrefl, and_self, not_false_eq_true, not_true_eq_false, LabH, nO, nM, nI, nP, Ins.v, Ins.row, Cal.v, Cal.row, List.map_append, Itm.row]
    · have e2 : (at_ cs k).emit i line = (0, chk i, at_ cs k) := by rw [Lab.emit, if_pos h1]
      rw [e2] at hs ⊢
      simp -implicitDefEqProofs only [go_sem, Nat.reduceEqDiff, Nat.reduceAdd, Nat.reduceSub, Nat.reduceMul, Nat.reduceLeDiff, Nat.reduceLT, Nat.reduceBEq, Int.reduceToNat, Int.reduceLE, Int.reduceLT, Int.reduceEq, Int.reduceNe, Int.reduceAdd, Int.reduceSub, Int.reduceNeg, Int.toNat_natCast, Int.cast_ofNat_Int, Int.natCast_zero, Int.natCast_one, reduceCtorEq, reduceIte, Nat.lt_irrefl, and_self, not_false_eq_true, not_true_eq_false, LabH, nO, nM, nI, nP, Ins.v, Ins.row, Cal.v, Cal.row, h1]
      refine ⟨by omega, ih _ (k + 1, (si', sp), (s1, s2), n') (by simp only; omega) (by simp only; omega) ?_⟩
      simp only [hz, hs]
      simp -implicitDefEqProofs only [go_sem, Nat.reduceEqDiff, Nat.reduceAdd, Nat.reduceSub, Nat.reduceMul, Nat.reduceLeDiff, Nat.reduceLT, Nat.reduceBEq, Int.reduceToNat, Int.reduceLE, Int.reduceLT, Int.reduceEq, Int.reduceNe, Int.reduceAdd, Int.reduceSub, Int.reduceNeg, Int.toNat_natCast, Int.cast_ofNat_Int, Int.natCast_zero, Int.natCast_one, reduceCtorEq, reduceIte, Nat.lt_irrefl, and_self, not_false_eq_true, not_true_eq_false, LabH, nO, nM, nI, nP, Ins.v, Ins.row, Cal.v, Cal.row]
  · refine CallS.at [2, 3, 4, 5] [0, 1] (finishD_c (at_ cs k) so sm si sp _ hok) rfl rfl ?_
    rintro r h' n3 hn ⟨rfl, rfl⟩
    have hst := straight_fin (straight_at line is k)
    rw [hC] at hst
    rw [finV_eq, hst]
    simp -implicitDefEqProofs only [go_sem, Nat.reduceEqDiff, Nat.reduceAdd, Nat.reduceSub, Nat.reduceMul, Nat.reduceLeDiff, Nat.reduceLT, Nat.reduceBEq, Int.reduceToNat, Int.reduceLE, Int.reduceLT, Int.reduceEq, Int.reduceNe, Int.reduceAdd, Int.reduceSub, Int.reduceNeg, Int.toNat_natCast, Int.cast_ofNat_Int, Int.natCast_zero, Int.natCast_one, reduceCtorEq, reduceIte, Nat.lt_irrefl, and_self, not_false_eq_true, not_true_eq_false, LabH, nO, nM, nI, nP, Ins.v, Ins.row, Cal.v, Cal.row]
    have htk : ((((at_ cs k).items.map (·.i)).map Ins.row).take (at_ cs k).items.length) = ((at_ cs k).items.map (·.i)).map Ins.row := List.take_of_length_le (by simp)
    refine CallS.view (same_pure ((at_ cs k).items.map (·.i)) (at_ cs k).items (by simpa using hok.items) hok.items) 1 (by simp -implicitDefEqProofs only [go_sem, Nat.reduceEqDiff, Nat.reduceAdd, Nat.reduceSub, Nat.reduceMul, Nat.reduceLeDiff, Nat.reduceLT, Nat.reduceBEq, Int.reduceToNat, Int.reduceLE, Int.reduceLT, Int.reduceEq, Int.reduceNe, Int.reduceAdd, Int.reduceSub, Int.reduceNeg, Int.toNat_natCast, Int.cast_ofNat_Int, Int.natCast_zero, Int.natCast_one, reduceCtorEq, reduceIte, Nat.lt_irrefl, and_self, not_false_eq_true, not_true_eq_false, LabH, nO, nM, nI, nP, Ins.v, Ins.row, Cal.v, Cal.row, frzI, frzL, codeR_eq, htk]) rfl ?_
    simp -implicitDefEqProofs only [go_sem, Nat.reduceEqDiff, Nat.reduceAdd, Nat.reduceSub, Nat.reduceMul, Nat.reduceLeDiff, Nat.reduceLT, Nat.reduceBEq, Int.reduceToNat, Int.reduceLE, Int.reduceLT, Int.reduceEq, Int.reduceNe, Int.reduceAdd, Int.reduceSub, Int.reduceNeg, Int.toNat_natCast, Int.cast_ofNat_Int, Int.natCast_zero, Int.natCast_one, reduceCtorEq, reduceIte, Nat.lt_irrefl, and_self, not_false_eq_true, not_true_eq_false, LabH, nO, nM, nI, nP, Ins.v, Ins.row, Cal.v, Cal.row]
    refine CallS.pureF awake_pure (by simp -implicitDefEqProofs only [go_sem, Nat.reduceEqDiff, Nat.reduceAdd, Nat.reduceSub, Nat.reduceMul, Nat.reduceLeDiff, Nat.reduceLT, Nat.reduceBEq, Int.reduceToNat, Int.reduceLE, Int.reduceLT, Int.reduceEq, Int.reduceNe, Int.reduceAdd, Int.reduceSub, Int.reduceNeg, Int.toNat_natCast, Int.cast_ofNat_Int, Int.natCast_zero, Int.natCast_one, reduceCtorEq, reduceIte, Nat.lt_irrefl, and_self, not_false_eq_true, not_true_eq_false, LabH, nO, nM, nI, nP, Ins.v, Ins.row, Cal.v, Cal.row]) ?_
    simp -implicitDefEqProofs only [go_sem, Nat.reduceEqDiff, Nat.reduceAdd, Nat.reduceSub, Nat.reduceMul, Nat.reduceLeDiff, Nat.reduceLT, Nat.reduceBEq, Int.reduceToNat, Int.reduceLE, Int.reduceLT, Int.reduceEq, Int.reduceNe, Int.reduceAdd, Int.reduceSub, Int.reduceNeg, Int.toNat_natCast, Int.cast_ofNat_Int, Int.natCast_zero, Int.natCast_one, reduceCtorEq, reduceIte, Nat.lt_irrefl, and_self, not_false_eq_true, not_true_eq_false, LabH, nO, nM, nI, nP, Ins.v, Ins.row, Cal.v, Cal.row]

end Go.Proofs.YtlckjdhammcpaaaDoor
