/-
  LabelsFollows. No condition.
-/
import Derived.Test.YtlckjdhammcpaaaDoorLabL5
import Derived.Test.YtlckjdhammcpaaaDoorFlowN
set_option linter.unusedVariables false
set_option linter.unusedSimpArgs false
set_option maxRecDepth 100000
set_option maxHeartbeats 0
namespace Go.Proofs.YtlckjdhammcpaaaDoor
open Go.Abs
attribute [local irreducible] CallS Run
-- EV: LabH, nO, nM, nI, nP, Ins.v, Ins.row, Cal.v, Cal.row

theorem compactUpTo_mem (d : Array Int) : ∀ m j, j < m → d[j]! ∈ Lib.compactUpTo d m
  | 0, j, h => absurd h (Nat.not_lt_zero _)
  | m + 1, j, h => by
    rw [Lib.compactUpTo_succ]
    by_cases hj : j < m
    · exact List.mem_append.2 (.inl (compactUpTo_mem d m j hj))
    · obtain rfl : j = m := by omega
      cases hk : Lib.keeps d j with
      | true => simp
      | false =>
        have : ¬ (j = 0 ∨ d[j]! ≠ d[j - 1]!) := of_decide_eq_false hk
        have e : d[j]! = d[j - 1]! := by
          by_cases h2 : d[j]! = d[j - 1]!
          · exact h2
          · exact absurd (.inr h2) this
        have h0 : j ≠ 0 := fun h => this (.inl h)
        rw [e]
        exact List.mem_append.2 (.inl (compactUpTo_mem d j (j - 1) (by omega)))
theorem mem_compact_of {zs : List Int} {x : Int} (h : x ∈ zs) : x ∈ Lib.compact zs := by
  obtain ⟨j, hj, rfl⟩ := List.getElem_of_mem h
  have := compactUpTo_mem zs.toArray zs.length j hj
  simpa [Lib.compact, hj] using this
theorem mem_normZ {l : List Int} {x : Int} (h : x ∈ l) : x ∈ normZ l := mem_compact_of ((List.mergeSort_perm l _).mem_iff.2 h)

theorem nextL_len (code : List Ins) (at_ : Int) : (nextL code at_).length ≤ 2 := by
  have h1 : ∀ l : List Int, (normZ l).length ≤ l.length := fun l => Nat.le_trans (Lib.compact_length_le _) (by simp [sortZ])
  unfold nextL
  split
  · simp
  split
  · refine Nat.le_trans (h1 _) ?_
    unfold tgtL fallL
    split <;> split <;> simp
  · simp

theorem labelsFollows_args (n0 : List (List V)) (l0 : n0.length ≤ maxLen) (w0 : ∀ row ∈ n0, Typed Tryd.prog 34 row) : Pure Tryd.prog 9 [.isl n0] (.bool true) := by
  obtain ⟨cs, h0⟩ := cals_of w0
  have hrow : ∀ (k : Nat) (x : Cal), cs[k]? = some x → n0[k]? = some x.row := fun k x h => by rw [h0, List.getElem?_map, h]; rfl
  have hlen : n0.length = cs.length := by rw [h0, List.length_map]
  have hsz : rowsz n0 8 = True := by rw [h0]; exact rowszC cs
  clear h0 w0 l0
  refine Pure.of 0 (CallS.enter scriptinglaw38_LabelsFollows_ok (Nat.le_of_ble_eq_true rfl) ?_)
  refine Run.go 100 ?_
  simp -implicitDefEqProofs only [go_sem, Nat.reduceEqDiff, Nat.reduceAdd, Nat.reduceSub, Nat.reduceMul, Nat.reduceLeDiff, Nat.reduceLT, Nat.reduceBEq, Int.reduceToNat, Int.reduceLE, Int.reduceLT, Int.reduceEq, Int.reduceNe, Int.reduceAdd, Int.reduceSub, Int.reduceNeg, Int.toNat_natCast, Int.cast_ofNat_Int, Int.natCast_zero, Int.natCast_one, reduceCtorEq, reduceIte, Nat.lt_irrefl, and_self, not_false_eq_true, not_true_eq_false, LabH, nO, nM, nI, nP, Ins.v, Ins.row, Cal.v, Cal.row, initSl]
  refine CallS.at [] [] (new_c _) rfl rfl ?_
  rintro r h' n' hn ⟨so, sm, si, sp, rfl, rfl⟩
  simp -implicitDefEqProofs only [go_sem, Nat.reduceEqDiff, Nat.reduceAdd, Nat.reduceSub, Nat.reduceMul, Nat.reduceLeDiff, Nat.reduceLT, Nat.reduceBEq, Int.reduceToNat, Int.reduceLE, Int.reduceLT, Int.reduceEq, Int.reduceNe, Int.reduceAdd, Int.reduceSub, Int.reduceNeg, Int.toNat_natCast, Int.cast_ofNat_Int, Int.natCast_zero, Int.natCast_one, reduceCtorEq, reduceIte, Nat.lt_irrefl, and_self, not_false_eq_true, not_true_eq_false, LabH, nO, nM, nI, nP, Ins.v, Ins.row, Cal.v, Cal.row, Lab.new]
  refine ⟨fun h => ?_, fun h => ?_⟩
  · refine CallS.pureF awake_pure (by simp -implicitDefEqProofs only [go_sem, Nat.reduceEqDiff, Nat.reduceAdd, Nat.reduceSub, Nat.reduceMul, Nat.reduceLeDiff, Nat.reduceLT, Nat.reduceBEq, Int.reduceToNat, Int.reduceLE, Int.reduceLT, Int.reduceEq, Int.reduceNe, Int.reduceAdd, Int.reduceSub, Int.reduceNeg, Int.toNat_natCast, Int.cast_ofNat_Int, Int.natCast_zero, Int.natCast_one, reduceCtorEq, reduceIte, Nat.lt_irrefl, and_self, not_false_eq_true, not_true_eq_false, LabH, nO, nM, nI, nP, Ins.v, Ins.row, Cal.v, Cal.row]) ?_
    simp -implicitDefEqProofs only [go_sem, Nat.reduceEqDiff, Nat.reduceAdd, Nat.reduceSub, Nat.reduceMul, Nat.reduceLeDiff, Nat.reduceLT, Nat.reduceBEq, Int.reduceToNat, Int.reduceLE, Int.reduceLT, Int.reduceEq, Int.reduceNe, Int.reduceAdd, Int.reduceSub, Int.reduceNeg, Int.toNat_natCast, Int.cast_ofNat_Int, Int.natCast_zero, Int.natCast_one, reduceCtorEq, reduceIte, Nat.lt_irrefl, and_self, not_false_eq_true, not_true_eq_false, LabH, nO, nM, nI, nP, Ins.v, Ins.row, Cal.v, Cal.row]
  refine Run.rounds (fun (x : Nat × (Nat × Nat) × (Nat × List Cal × List Int) × Nat) => ⟨[(27, .int .i64 x.1), (26, .int .i64 n0.length), (4, .sl (9 * 10000 + 24) x.2.2.1.1 0 x.2.2.1.2.1.length), (3, .ptr nO so 0 0), (0, .isl n0)],
      [((9 * 10000 + 24), x.2.2.1.1, .rows 8 (x.2.2.1.2.1.map Cal.row))] ++ LabH so sm x.2.1.1 x.2.1.2 (at_ cs x.1), x.2.2.2⟩)
    (fun x => x.1 ≤ n0.length ∧ Giv (at_ cs x.1) x.2.2.1.2.1 x.2.2.1.2.2) (fun x => n0.length - x.1) (0, (si, sp), (n', [], List.replicate 101 0), n' + 1) (by simp -implicitDefEqProofs only [go_sem, Nat.reduceEqDiff, Nat.reduceAdd, Nat.reduceSub, Nat.reduceMul, Nat.reduceLeDiff, Nat.reduceLT, Nat.reduceBEq, Int.reduceToNat, Int.reduceLE, Int.reduceLT, Int.reduceEq, Int.reduceNe, Int.reduceAdd, Int.reduceSub, Int.reduceNeg, Int.toNat_natCast, Int.cast_ofNat_Int, Int.natCast_zero, Int.natCast_one, reduceCtorEq, reduceIte, Nat.lt_irrefl, and_self, not_false_eq_true, not_true_eq_false, LabH, nO, nM, nI, nP, Ins.v, Ins.row, Cal.v, Cal.row, at_, Lab.run, Lab.new]) ⟨by simp only; omega, Giv.new⟩ ?_
  rintro ⟨k, ⟨si, sp⟩, ⟨sg, g, pl⟩, m⟩ ⟨hk, hg⟩ ih
  simp only at hk hg ⊢
  have hin := at_in cs k
  have hok := hin.ok (by omega)
  by_cases c : (k : Int) < n0.length
  · obtain ⟨x, hx⟩ : ∃ x, cs[k]? = some x := ⟨cs[k]'(by omega), by simp⟩
    have hr := hrow k x hx
    have hb0 : ((0 : Int) ≤ (k : Int)) = True := eq_true (by omega)
    have hb1 : ((k : Int) < (n0.length : Int)) = True := eq_true c
    have hb2 : (k < n0.length) = True := eq_true (by omega)
    refine Run.unf scriptinglaw38_LabelsFollows_l0_eq (Run.go 11 ?_)
    simp -implicitDefEqProofs only [go_sem, Nat.reduceEqDiff, Nat.reduceAdd, Nat.reduceSub, Nat.reduceMul, Nat.reduceLeDiff, Nat.reduceLT, Nat.reduceBEq, Int.reduceToNat, Int.reduceLE, Int.reduceLT, Int.reduceEq, Int.reduceNe, Int.reduceAdd, Int.reduceSub, Int.reduceNeg, Int.toNat_natCast, Int.cast_ofNat_Int, Int.natCast_zero, Int.natCast_one, reduceCtorEq, reduceIte, Nat.lt_irrefl, and_self, not_false_eq_true, not_true_eq_false, LabH, nO, nM, nI, nP, Ins.v, Ins.row, Cal.v, Cal.row, hsz, hr, hb0, hb1, hb2, Option.some.injEq, forall_eq']
    refine CallS.at [1, 2, 3, 4] [0] (program_c (at_ cs k) so sm si sp _ x hok) rfl rfl ?_
    rintro r h' n1 hn ⟨si', sp', rfl, rfl⟩
    simp -implicitDefEqProofs only [go_sem, Nat.reduceEqDiff, Nat.reduceAdd, Nat.reduceSub, Nat.reduceMul, Nat.reduceLeDiff, Nat.reduceLT, Nat.reduceBEq, Int.reduceToNat, Int.reduceLE, Int.reduceLT, Int.reduceEq, Int.reduceNe, Int.reduceAdd, Int.reduceSub, Int.reduceNeg, Int.toNat_natCast, Int.cast_ofNat_Int, Int.natCast_zero, Int.natCast_one, reduceCtorEq, reduceIte, Nat.lt_irrefl, and_self, not_false_eq_true, not_true_eq_false, LabH, nO, nM, nI, nP, Ins.v, Ins.row, Cal.v, Cal.row]
    refine Run.keep [27, 26, 7, 5, 4, 3, 0] ?_
    have hz : ((k + 1 : Nat) : Int) = (k : Int) + 1 := by omega
    have next : ∀ s sg' g' pl' m', Giv ((at_ cs k).call x).2.2 g' pl' → Weak s ⟨[(27, .int .i64 ((k : Int) + 1)), (26, .int .i64 n0.length), (4, .sl (9 * 10000 + 24) sg' 0 g'.length), (3, .ptr nO so 0 0), (0, .isl n0)],
      [((9 * 10000 + 24), sg', .rows 8 (g'.map Cal.row))] ++ LabH so sm si' sp' ((at_ cs k).call x).2.2, m'⟩ → _ :=
      fun s sg' g' pl' m' hgg hw => ih s (k + 1, (si', sp'), (sg', g', pl'), m') ⟨by simp only; omega, by simp only [at_succ hx]; exact hgg⟩ (by simp only; omega) (by simp only [hz, at_succ hx]; exact hw)
    clear ih
    by_cases he : ((at_ cs k).call x).2.1 = 0
    rotate_left
    · refine Run.go 100 ?_
      simp -implicitDefEqProofs only [go_sem, Nat.reduceEqDiff, Nat.reduceAdd, Nat.reduceSub, Nat.reduceMul, Nat.reduceLeDiff, Nat.reduceLT, Nat.reduceBEq, Int.reduceToNat, Int.reduceLE, Int.reduceLT, Int.reduceEq, Int.reduceNe, Int.reduceAdd, Int.reduceSub, Int.reduceNeg, Int.toNat_natCast, Int.cast_ofNat_Int, Int.natCast_zero, Int.natCast_one, reduceCtorEq, reduceIte, Nat.lt_irrefl, and_self, not_false_eq_true, not_true_eq_false, LabH, nO, nM, nI, nP, Ins.v, Ins.row, Cal.v, Cal.row, he]
      exact ⟨by omega, next _ sg g pl n1 (by rw [call_err he]; exact hg) (by simp -implicitDefEqProofs only [go_sem, Nat.reduceEqDiff, Nat.reduceAdd, Nat.reduceSub, Nat.reduceMul, Nat.reduceLeDiff, Nat.reduceLT, Nat.reduceBEq, Int.reduceToNat, Int.reduceLE, Int.reduceLT, Int.reduceEq, Int.reduceNe, Int.reduceAdd, Int.reduceSub, Int.reduceNeg, Int.toNat_natCast, Int.cast_ofNat_Int, Int.natCast_zero, Int.natCast_one, reduceCtorEq, reduceIte, Nat.lt_irrefl, and_self, not_false_eq_true, not_true_eq_false, LabH, nO, nM, nI, nP, Ins.v, Ins.row, Cal.v, Cal.row])⟩
    have hgn := hg.n
    have hI := hok.items
    have hP := hin.places
    have hg0 := fun h => hg.add0 (c := x) h he
    have hg1 := fun h => hg.add1 (c := x) h he
    have hg2 := fun h => hg.add2 (c := x) h he (by omega)
    have hg3 := fun h h' => hg.add3 (c := x) h h' he (by omega)
    generalize (at_ cs k).call x = R at *
    by_cases hk0 : x.kind = 0
    · refine Run.go 100 ?_
      simp -implicitDefEqProofs only [go_sem, Nat.reduceEqDiff, Nat.reduceAdd, Nat.reduceSub, Nat.reduceMul, Nat.reduceLeDiff, Nat.reduceLT, Nat.reduceBEq, Int.reduceToNat, Int.reduceLE, Int.reduceLT, Int.reduceEq, Int.reduceNe, Int.reduceAdd, Int.reduceSub, Int.reduceNeg, Int.toNat_natCast, Int.cast_ofNat_Int, Int.natCast_zero, Int.natCast_one, reduceCtorEq, reduceIte, Nat.lt_irrefl, and_self, not_false_eq_true, not_true_eq_false, LabH, nO, nM, nI, nP, Ins.v, Ins.row, Cal.v, Cal.row, hk0, he, hr, hsz, hb0, hb1, hb2, Option.some.injEq, forall_eq']
      refine ⟨by omega, by omega, next _ n1 (g ++ [x]) pl (n1 + 1) (hg0 hk0) ?_⟩
      simp -implicitDefEqProofs only [go_sem, Nat.reduceEqDiff, Nat.reduceAdd, Nat.reduceSub, Nat.reduceMul, Nat.reduceLeDiff, Nat.reduceLT, Nat.reduceBEq, Int.reduceToNat, Int.reduceLE, Int.reduceLT, Int.reduceEq, Int.reduceNe, Int.reduceAdd, Int.reduceSub, Int.reduceNeg, Int.toNat_natCast, Int.cast_ofNat_Int, Int.natCast_zero, Int.natCast_one, reduceCtorEq, reduceIte, Nat.lt_irrefl, and_self, not_false_eq_true, not_true_eq_false, LabH, nO, nM, nI, nP, Ins.v, Ins.row, Cal.v, Cal.row, List.map_append, hk0]
    by_cases hk1 : x.kind = 1
    · refine Run.go 100 ?_
      simp -implicitDefEqProofs only [go_sem, Nat.reduceEqDiff, Nat.reduceAdd, Nat.reduceSub, Nat.reduceMul, Nat.reduceLeDiff, Nat.reduceLT, Nat.reduceBEq, Int.reduceToNat, Int.reduceLE, Int.reduceLT, Int.reduceEq, Int.reduceNe, Int.reduceAdd, Int.reduceSub, Int.reduceNeg, Int.toNat_natCast, Int.cast_ofNat_Int, Int.natCast_zero, Int.natCast_one, reduceCtorEq, reduceIte, Nat.lt_irrefl, and_self, not_false_eq_true, not_true_eq_false, LabH, nO, nM, nI, nP, Ins.v, Ins.row, Cal.v, Cal.row, hk1, he, hr, hsz, hb0, hb1, hb2, Option.some.injEq, forall_eq']
      refine ⟨by omega, by omega, next _ n1 (g ++ [x]) pl (n1 + 1) (hg1 hk1) ?_⟩
      simp -implicitDefEqProofs only [go_sem, Nat.reduceEqDiff, Nat.reduceAdd, Nat.reduceSub, Nat.reduceMul, Nat.reduceLeDiff, Nat.reduceLT, Nat.reduceBEq, Int.reduceToNat, Int.reduceLE, Int.reduceLT, Int.reduceEq, Int.reduceNe, Int.reduceAdd, Int.reduceSub, Int.reduceNeg, Int.toNat_natCast, Int.cast_ofNat_Int, Int.natCast_zero, Int.natCast_one, reduceCtorEq, reduceIte, Nat.lt_irrefl, and_self, not_false_eq_true, not_true_eq_false, LabH, nO, nM, nI, nP, Ins.v, Ins.row, Cal.v, Cal.row, List.map_append, hk1]
    · refine Run.go 100 ?_
      simp -implicitDefEqProofs only [go_sem, Nat.reduceEqDiff, Nat.reduceAdd, Nat.reduceSub, Nat.reduceMul, Nat.reduceLeDiff, Nat.reduceLT, Nat.reduceBEq, Int.reduceToNat, Int.reduceLE, Int.reduceLT, Int.reduceEq, Int.reduceNe, Int.reduceAdd, Int.reduceSub, Int.reduceNeg, Int.toNat_natCast, Int.cast_ofNat_Int, Int.natCast_zero, Int.natCast_one, reduceCtorEq, reduceIte, Nat.lt_irrefl, and_self, not_false_eq_true, not_true_eq_false, LabH, nO, nM, nI, nP, Ins.v, Ins.row, Cal.v, Cal.row, hk0, hk1, he, hr, hsz, hb0, hb1, hb2, Option.some.injEq, forall_eq']
      by_cases hk2 : x.kind = 2
      · exact ⟨by omega, next _ sg g _ n1 (hg2 hk2) (by simp -implicitDefEqProofs only [go_sem, Nat.reduceEqDiff, Nat.reduceAdd, Nat.reduceSub, Nat.reduceMul, Nat.reduceLeDiff, Nat.reduceLT, Nat.reduceBEq, Int.reduceToNat, Int.reduceLE, Int.reduceLT, Int.reduceEq, Int.reduceNe, Int.reduceAdd, Int.reduceSub, Int.reduceNeg, Int.toNat_natCast, Int.cast_ofNat_Int, Int.natCast_zero, Int.natCast_one, reduceCtorEq, reduceIte, Nat.lt_irrefl, and_self, not_false_eq_true, not_true_eq_false, LabH, nO, nM, nI, nP, Ins.v, Ins.row, Cal.v, Cal.row])⟩
      · exact ⟨by omega, next _ sg g _ n1 (hg3 (by omega) hk2) (by simp -implicitDefEqProofs only [go_sem, Nat.reduceEqDiff, Nat.reduceAdd, Nat.reduceSub, Nat.reduceMul, Nat.reduceLeDiff, Nat.reduceLT, Nat.reduceBEq, Int.reduceToNat, Int.reduceLE, Int.reduceLT, Int.reduceEq, Int.reduceNe, Int.reduceAdd, Int.reduceSub, Int.reduceNeg, Int.toNat_natCast, Int.cast_ofNat_Int, Int.natCast_zero, Int.natCast_one, reduceCtorEq, reduceIte, Nat.lt_irrefl, and_self, not_false_eq_true, not_true_eq_false, LabH, nO, nM, nI, nP, Ins.v, Ins.row, Cal.v, Cal.row])⟩
  · clear ih
    refine Run.unf scriptinglaw38_LabelsFollows_l0_eq (Run.go 100 ?_)
    simp -implicitDefEqProofs only [go_sem, Nat.reduceEqDiff, Nat.reduceAdd, Nat.reduceSub, Nat.reduceMul, Nat.reduceLeDiff, Nat.reduceLT, Nat.reduceBEq, Int.reduceToNat, Int.reduceLE, Int.reduceLT, Int.reduceEq, Int.reduceNe, Int.reduceAdd, Int.reduceSub, Int.reduceNeg, Int.toNat_natCast, Int.cast_ofNat_Int, Int.natCast_zero, Int.natCast_one, reduceCtorEq, reduceIte, Nat.lt_irrefl, and_self, not_false_eq_true, not_true_eq_false, LabH, nO, nM, nI, nP, Ins.v, Ins.row, Cal.v, Cal.row, c]
    generalize at_ cs k = L at hg hok hin
    refine CallS.at [1, 2, 3, 4] [0] (finishD_c L so sm si sp _ hok) rfl rfl ?_
    rintro r h' n1 hn ⟨rfl, rfl⟩
    rw [finV_eq]
    have hgn := hg.n
    have hI := hok.items
    have hfin := hg.finish hok
    cases hgall : g.all (goodC pl g.length) with
    | false =>
      rw [hgall] at hfin
      have hF : L.fin = ([], [], 12) := by rw [Lab.fin, hfin]; rfl
      rw [hF]
      simp -implicitDefEqProofs only [go_sem, Nat.reduceEqDiff, Nat.reduceAdd, Nat.reduceSub, Nat.reduceMul, Nat.reduceLeDiff, Nat.reduceLT, Nat.reduceBEq, Int.reduceToNat, Int.reduceLE, Int.reduceLT, Int.reduceEq, Int.reduceNe, Int.reduceAdd, Int.reduceSub, Int.reduceNeg, Int.toNat_natCast, Int.cast_ofNat_Int, Int.natCast_zero, Int.natCast_one, reduceCtorEq, reduceIte, Nat.lt_irrefl, and_self, not_false_eq_true, not_true_eq_false, LabH, nO, nM, nI, nP, Ins.v, Ins.row, Cal.v, Cal.row]
      refine CallS.pureF awake_pure (by simp -implicitDefEqProofs only [go_sem, Nat.reduceEqDiff, Nat.reduceAdd, Nat.reduceSub, Nat.reduceMul, Nat.reduceLeDiff, Nat.reduceLT, Nat.reduceBEq, Int.reduceToNat, Int.reduceLE, Int.reduceLT, Int.reduceEq, Int.reduceNe, Int.reduceAdd, Int.reduceSub, Int.reduceNeg, Int.toNat_natCast, Int.cast_ofNat_Int, Int.natCast_zero, Int.natCast_one, reduceCtorEq, reduceIte, Nat.lt_irrefl, and_self, not_false_eq_true, not_true_eq_false, LabH, nO, nM, nI, nP, Ins.v, Ins.row, Cal.v, Cal.row]) ?_
      simp -implicitDefEqProofs only [go_sem, Nat.reduceEqDiff, Nat.reduceAdd, Nat.reduceSub, Nat.reduceMul, Nat.reduceLeDiff, Nat.reduceLT, Nat.reduceBEq, Int.reduceToNat, Int.reduceLE, Int.reduceLT, Int.reduceEq, Int.reduceNe, Int.reduceAdd, Int.reduceSub, Int.reduceNeg, Int.toNat_natCast, Int.cast_ofNat_Int, Int.natCast_zero, Int.natCast_one, reduceCtorEq, reduceIte, Nat.lt_irrefl, and_self, not_false_eq_true, not_true_eq_false, LabH, nO, nM, nI, nP, Ins.v, Ins.row, Cal.v, Cal.row]
    | true =>
      rw [hgall] at hfin
      have hF : L.fin = (g.map (outI pl), L.items, 0) := by rw [Lab.fin, hfin]; rfl
      rw [hF]
      simp only
      have hA : ((g.map (outI pl)).map Ins.row).length = g.length := by simp
      simp -implicitDefEqProofs only [go_sem, Nat.reduceEqDiff, Nat.reduceAdd, Nat.reduceSub, Nat.reduceMul, Nat.reduceLeDiff, Nat.reduceLT, Nat.reduceBEq, Int.reduceToNat, Int.reduceLE, Int.reduceLT, Int.reduceEq, Int.reduceNe, Int.reduceAdd, Int.reduceSub, Int.reduceNeg, Int.toNat_natCast, Int.cast_ofNat_Int, Int.natCast_zero, Int.natCast_one, reduceCtorEq, reduceIte, Nat.lt_irrefl, and_self, not_false_eq_true, not_true_eq_false, LabH, nO, nM, nI, nP, Ins.v, Ins.row, Cal.v, Cal.row, hA]
      have hA5 := rowszI (g.map (outI pl))
      have hA4 : ∀ (j : Nat) (y : Cal), g[j]? = some y → ((g.map (outI pl)).map Ins.row)[j]? = some (outI pl y).row := fun j y h => by simp [h]
      have hG0 : (g.map Cal.row).length = g.length := by simp
      have hG4 : ∀ (j : Nat) (y : Cal), g[j]? = some y → (g.map Cal.row)[j]? = some y.row := fun j y h => by simp [h]
      have hgood : ∀ y ∈ g, goodC pl g.length y = true := fun y hy => List.all_eq_true.1 hgall y hy
      have heach := hg.each
      have hsub := subI lost (g.map (outI pl))
      have hnx := fun j => next_pure (g.map (outI pl)) j (by simp; omega) (.str []) (.int .i64 0) (.int .i64 0) (.bool false) (.int .i64 0) (.isl []) (.isl []) (.isl []) (.isl []) (.isl [])
      generalize g.map Cal.row = GR at *
      generalize hAe : (g.map (outI pl)).map Ins.row = A at *
      clear hfin hgall hF hrow hsz
      generalize n1 = np
      refine Run.rounds (fun (x : Nat × Nat) => ⟨[(83, .int .i64 x.1), (82, .int .i64 g.length), (11, .ptr (9 * 10000 + 11) np 0 0), (8, .isl A), (4, .sl (9 * 10000 + 24) sg 0 g.length)], [((9 * 10000 + 11), np, .rows 11 [[.str [], .int .i64 0, .int .i64 0, .bool false, .int .i64 0, .isl A, .nils, .nils, .nils, .nils, .nils]]), ((9 * 10000 + 24), sg, .rows 8 GR)], x.2⟩) (fun x => x.1 ≤ g.length) (fun x => g.length - x.1) (0, np + 1) (by simp -implicitDefEqProofs only [go_sem, Nat.reduceEqDiff, Nat.reduceAdd, Nat.reduceSub, Nat.reduceMul, Nat.reduceLeDiff, Nat.reduceLT, Nat.reduceBEq, Int.reduceToNat, Int.reduceLE, Int.reduceLT, Int.reduceEq, Int.reduceNe, Int.reduceAdd, Int.reduceSub, Int.reduceNeg, Int.toNat_natCast, Int.cast_ofNat_Int, Int.natCast_zero, Int.natCast_one, reduceCtorEq, reduceIte, Nat.lt_irrefl, and_self, not_false_eq_true, not_true_eq_false, LabH, nO, nM, nI, nP, Ins.v, Ins.row, Cal.v, Cal.row]) (by simp only; omega) ?_
      rintro ⟨j, m1⟩ hj ih
      simp only at hj ⊢
      have hz : ((j + 1 : Nat) : Int) = (j : Int) + 1 := by omega
      refine Run.unf scriptinglaw38_LabelsFollows_l1_eq (Run.go 100 ?_)
      by_cases c : (j : Int) < g.length
      rotate_left
      · simp -implicitDefEqProofs only [go_sem, Nat.reduceEqDiff, Nat.reduceAdd, Nat.reduceSub, Nat.reduceMul, Nat.reduceLeDiff, Nat.reduceLT, Nat.reduceBEq, Int.reduceToNat, Int.reduceLE, Int.reduceLT, Int.reduceEq, Int.reduceNe, Int.reduceAdd, Int.reduceSub, Int.reduceNeg, Int.toNat_natCast, Int.cast_ofNat_Int, Int.natCast_zero, Int.natCast_one, reduceCtorEq, reduceIte, Nat.lt_irrefl, and_self, not_false_eq_true, not_true_eq_false, LabH, nO, nM, nI, nP, Ins.v, Ins.row, Cal.v, Cal.row, c]
        refine CallS.pureF awake_pure (by simp -implicitDefEqProofs only [go_sem, Nat.reduceEqDiff, Nat.reduceAdd, Nat.reduceSub, Nat.reduceMul, Nat.reduceLeDiff, Nat.reduceLT, Nat.reduceBEq, Int.reduceToNat, Int.reduceLE, Int.reduceLT, Int.reduceEq, Int.reduceNe, Int.reduceAdd, Int.reduceSub, Int.reduceNeg, Int.toNat_natCast, Int.cast_ofNat_Int, Int.natCast_zero, Int.natCast_one, reduceCtorEq, reduceIte, Nat.lt_irrefl, and_self, not_false_eq_true, not_true_eq_false, LabH, nO, nM, nI, nP, Ins.v, Ins.row, Cal.v, Cal.row]) ?_
        simp -implicitDefEqProofs only [go_sem, Nat.reduceEqDiff, Nat.reduceAdd, Nat.reduceSub, Nat.reduceMul, Nat.reduceLeDiff, Nat.reduceLT, Nat.reduceBEq, Int.reduceToNat, Int.reduceLE, Int.reduceLT, Int.reduceEq, Int.reduceNe, Int.reduceAdd, Int.reduceSub, Int.reduceNeg, Int.toNat_natCast, Int.cast_ofNat_Int, Int.natCast_zero, Int.natCast_one, reduceCtorEq, reduceIte, Nat.lt_irrefl, and_self, not_false_eq_true, not_true_eq_false, LabH, nO, nM, nI, nP, Ins.v, Ins.row, Cal.v, Cal.row]
      obtain ⟨y, hy⟩ : ∃ y, g[j]? = some y := ⟨g[j]'(by omega), by simp⟩
      have hym := List.mem_of_getElem? hy
      have hAj := hA4 j y hy
      have hGj := hG4 j y hy
      have k0 : ((0 : Int) ≤ (j : Int)) = True := eq_true (by omega)
      have k1 : ((j : Int) < (g.length : Int)) = True := eq_true c
      have k2 : (j < g.length) = True := eq_true (by omega)
      have next : ∀ s m', Weak s ⟨[(83, .int .i64 ((j : Int) + 1)), (82, .int .i64 g.length), (11, .ptr (9 * 10000 + 11) np 0 0), (8, .isl A), (4, .sl (9 * 10000 + 24) sg 0 g.length)], [((9 * 10000 + 11), np, .rows 11 [[.str [], .int .i64 0, .int .i64 0, .bool false, .int .i64 0, .isl A, .nils, .nils, .nils, .nils, .nils]]), ((9 * 10000 + 24), sg, .rows 8 GR)], m'⟩ → _ := fun s m' hw => ih s (j + 1, m') (by simp only; omega) (by simp only; omega) (by simp only [hz]; exact hw)
      clear ih
      by_cases h1 : y.kind = 1
      rotate_left
      · simp -implicitDefEqProofs only [go_sem, Nat.reduceEqDiff, Nat.reduceAdd, Nat.reduceSub, Nat.reduceMul, Nat.reduceLeDiff, Nat.reduceLT, Nat.reduceBEq, Int.reduceToNat, Int.reduceLE, Int.reduceLT, Int.reduceEq, Int.reduceNe, Int.reduceAdd, Int.reduceSub, Int.reduceNeg, Int.toNat_natCast, Int.cast_ofNat_Int, Int.natCast_zero, Int.natCast_one, reduceCtorEq, reduceIte, Nat.lt_irrefl, and_self, not_false_eq_true, not_true_eq_false, LabH, nO, nM, nI, nP, Ins.v, Ins.row, Cal.v, Cal.row, h1, hG0, hGj, k0, k1, k2, Option.some.injEq, forall_eq']
        exact ⟨by omega, next _ m1 (by simp -implicitDefEqProofs only [go_sem, Nat.reduceEqDiff, Nat.reduceAdd, Nat.reduceSub, Nat.reduceMul, Nat.reduceLeDiff, Nat.reduceLT, Nat.reduceBEq, Int.reduceToNat, Int.reduceLE, Int.reduceLT, Int.reduceEq, Int.reduceNe, Int.reduceAdd, Int.reduceSub, Int.reduceNeg, Int.toNat_natCast, Int.cast_ofNat_Int, Int.natCast_zero, Int.natCast_one, reduceCtorEq, reduceIte, Nat.lt_irrefl, and_self, not_false_eq_true, not_true_eq_false, LabH, nO, nM, nI, nP, Ins.v, Ins.row, Cal.v, Cal.row])⟩
      have hgd := hgood y hym
      rcases heach y hym with ⟨h1', _⟩ | ⟨_, h2, h3, h4, h5⟩
      · omega
      simp only [goodC, h1, decide_true, Bool.not_true, Bool.false_or, decide_eq_true_eq] at hgd
      have ho : outI pl y = { y.i with b := tgt pl y } := by rw [outI, if_pos h1]
      have hmem : tgt pl y ∈ nextL (g.map (outI pl)) j := by
        rw [nextL, if_neg (by simp; omega)]
        have : (g.map (outI pl))[(j : Int).toNat]? = some (outI pl y) := by simp [hy]
        rw [this]
        refine mem_normZ (List.mem_append.2 (.inl ?_))
        rw [tgtL, if_pos (by rw [ho]; exact ⟨h2, hgd.1, by simpa using hgd.2⟩), ho]
        exact List.mem_cons_self
      rw [ho] at hAj
      simp -implicitDefEqProofs only [go_sem, Nat.reduceEqDiff, Nat.reduceAdd, Nat.reduceSub, Nat.reduceMul, Nat.reduceLeDiff, Nat.reduceLT, Nat.reduceBEq, Int.reduceToNat, Int.reduceLE, Int.reduceLT, Int.reduceEq, Int.reduceNe, Int.reduceAdd, Int.reduceSub, Int.reduceNeg, Int.toNat_natCast, Int.cast_ofNat_Int, Int.natCast_zero, Int.natCast_one, reduceCtorEq, reduceIte, Nat.lt_irrefl, and_self, not_false_eq_true, not_true_eq_false, LabH, nO, nM, nI, nP, Ins.v, Ins.row, Cal.v, Cal.row, h1, hG0, hGj, k0, k1, k2, Option.some.injEq, forall_eq']
      refine CallS.pure (hnx j) (by simp -implicitDefEqProofs only [go_sem, Nat.reduceEqDiff, Nat.reduceAdd, Nat.reduceSub, Nat.reduceMul, Nat.reduceLeDiff, Nat.reduceLT, Nat.reduceBEq, Int.reduceToNat, Int.reduceLE, Int.reduceLT, Int.reduceEq, Int.reduceNe, Int.reduceAdd, Int.reduceSub, Int.reduceNeg, Int.toNat_natCast, Int.cast_ofNat_Int, Int.natCast_zero, Int.natCast_one, reduceCtorEq, reduceIte, Nat.lt_irrefl, and_self, not_false_eq_true, not_true_eq_false, LabH, nO, nM, nI, nP, Ins.v, Ins.row, Cal.v, Cal.row, hsub]) ?_
      have hnl := nextL_len (g.map (outI pl)) j
      generalize nextL (g.map (outI pl)) j = nl at hmem hnl
      simp -implicitDefEqProofs only [go_sem, Nat.reduceEqDiff, Nat.reduceAdd, Nat.reduceSub, Nat.reduceMul, Nat.reduceLeDiff, Nat.reduceLT, Nat.reduceBEq, Int.reduceToNat, Int.reduceLE, Int.reduceLT, Int.reduceEq, Int.reduceNe, Int.reduceAdd, Int.reduceSub, Int.reduceNeg, Int.toNat_natCast, Int.cast_ofNat_Int, Int.natCast_zero, Int.natCast_one, reduceCtorEq, reduceIte, Nat.lt_irrefl, and_self, not_false_eq_true, not_true_eq_false, LabH, nO, nM, nI, nP, Ins.v, Ins.row, Cal.v, Cal.row]
      refine Run.rounds (fun (k : Nat) => ⟨[(97, .int .i64 k), (96, .int .i64 nl.length), (83, .int .i64 j), (82, .int .i64 g.length), (14, .bool ((nl.take k).any fun z => decide (z = tgt pl y))), (13, .isl (nl.map zrw)), (12, .int .i64 j), (11, .ptr (9 * 10000 + 11) np 0 0), (8, .isl A), (4, .sl (9 * 10000 + 24) sg 0 g.length)], [((9 * 10000 + 11), np, .rows 11 [[.str [], .int .i64 0, .int .i64 0, .bool false, .int .i64 0, .isl A, .nils, .nils, .nils, .nils, .nils]]), ((9 * 10000 + 24), sg, .rows 8 GR)], m1⟩)
        (fun k => k ≤ nl.length) (fun k => nl.length - k) 0 (by simp -implicitDefEqProofs only [go_sem, Nat.reduceEqDiff, Nat.reduceAdd, Nat.reduceSub, Nat.reduceMul, Nat.reduceLeDiff, Nat.reduceLT, Nat.reduceBEq, Int.reduceToNat, Int.reduceLE, Int.reduceLT, Int.reduceEq, Int.reduceNe, Int.reduceAdd, Int.reduceSub, Int.reduceNeg, Int.toNat_natCast, Int.cast_ofNat_Int, Int.natCast_zero, Int.natCast_one, reduceCtorEq, reduceIte, Nat.lt_irrefl, and_self, not_false_eq_true, not_true_eq_false, LabH, nO, nM, nI, nP, Ins.v, Ins.row, Cal.v, Cal.row, List.any_nil]) (by omega) ?_
      intro k hk ih
      have hzk : ((k + 1 : Nat) : Int) = (k : Int) + 1 := by omega
      have rz : rowsz (nl.map zrw) 1 = True := eq_true fun r hr => by obtain ⟨y, _, rfl⟩ := List.mem_map.1 hr; rfl
      refine Run.unf scriptinglaw38_LabelsFollows_l2_eq (Run.go 100 ?_)
      by_cases ck : (k : Int) < nl.length
      · obtain ⟨z, hzz⟩ : ∃ z, nl[k]? = some z := ⟨nl[k]'(by omega), by simp⟩
        have hN : (nl.map zrw)[k]? = some [.int .i64 z] := by simp [hzz, zrw]
        have hNl : (nl.map zrw).length = nl.length := List.length_map ..
        have hany : (nl.take (k + 1)).any (fun z => decide (z = tgt pl y)) = ((nl.take k).any (fun z => decide (z = tgt pl y)) || decide (z = tgt pl y)) := by
          rw [List.take_add_one, hzz, Option.toList_some, List.any_append]; simp
        generalize nl.map zrw = NR at *
        generalize (nl.take k).any (fun z => decide (z = tgt pl y)) = b at *
        have q0 : ((0 : Int) ≤ (k : Int)) = True := eq_true (by omega)
        have q1 : ((k : Int) < (nl.length : Int)) = True := eq_true ck
        have q2 : (k < nl.length) = True := eq_true (by omega)
        have nx : ∀ s b', b' = (nl.take (k + 1)).any (fun z => decide (z = tgt pl y)) → Weak s ⟨[(97, .int .i64 ((k : Int) + 1)), (96, .int .i64 nl.length), (83, .int .i64 j), (82, .int .i64 g.length), (14, .bool b'), (13, .isl NR), (12, .int .i64 j), (11, .ptr (9 * 10000 + 11) np 0 0), (8, .isl A), (4, .sl (9 * 10000 + 24) sg 0 g.length)], [((9 * 10000 + 11), np, .rows 11 [[.str [], .int .i64 0, .int .i64 0, .bool false, .int .i64 0, .isl A, .nils, .nils, .nils, .nils, .nils]]), ((9 * 10000 + 24), sg, .rows 8 GR)], m1⟩ → _ :=
          fun s b' hb hw => ih s (k + 1) (by omega) (by omega) (by simp only [hzk, ← hb]; exact hw)
        clear ih
        simp -implicitDefEqProofs only [go_sem, Nat.reduceEqDiff, Nat.reduceAdd, Nat.reduceSub, Nat.reduceMul, Nat.reduceLeDiff, Nat.reduceLT, Nat.reduceBEq, Int.reduceToNat, Int.reduceLE, Int.reduceLT, Int.reduceEq, Int.reduceNe, Int.reduceAdd, Int.reduceSub, Int.reduceNeg, Int.toNat_natCast, Int.cast_ofNat_Int, Int.natCast_zero, Int.natCast_one, reduceCtorEq, reduceIte, Nat.lt_irrefl, and_self, not_false_eq_true, not_true_eq_false, LabH, nO, nM, nI, nP, Ins.v, Ins.row, Cal.v, Cal.row, hN, hNl, rz, hA, hA5, hAj, k0, k1, k2, q0, q1, q2, Option.some.injEq, forall_eq']
        refine ⟨fun hb => ⟨by omega, nx _ (decide (z = tgt pl y)) (by rw [hany, hb]; rfl) (by simp -implicitDefEqProofs only [go_sem, Nat.reduceEqDiff, Nat.reduceAdd, Nat.reduceSub, Nat.reduceMul, Nat.reduceLeDiff, Nat.reduceLT, Nat.reduceBEq, Int.reduceToNat, Int.reduceLE, Int.reduceLT, Int.reduceEq, Int.reduceNe, Int.reduceAdd, Int.reduceSub, Int.reduceNeg, Int.toNat_natCast, Int.cast_ofNat_Int, Int.natCast_zero, Int.natCast_one, reduceCtorEq, reduceIte, Nat.lt_irrefl, and_self, not_false_eq_true, not_true_eq_false, LabH, nO, nM, nI, nP, Ins.v, Ins.row, Cal.v, Cal.row])⟩, fun hb => ⟨by omega, nx _ true (by rw [hany, hb]; rfl) (by simp -implicitDefEqProofs only [go_sem, Nat.reduceEqDiff, Nat.reduceAdd, Nat.reduceSub, Nat.reduceMul, Nat.reduceLeDiff, Nat.reduceLT, Nat.reduceBEq, Int.reduceToNat, Int.reduceLE, Int.reduceLT, Int.reduceEq, Int.reduceNe, Int.reduceAdd, Int.reduceSub, Int.reduceNeg, Int.toNat_natCast, Int.cast_ofNat_Int, Int.natCast_zero, Int.natCast_one, reduceCtorEq, reduceIte, Nat.lt_irrefl, and_self, not_false_eq_true, not_true_eq_false, LabH, nO, nM, nI, nP, Ins.v, Ins.row, Cal.v, Cal.row])⟩⟩
      · have : k = nl.length := by omega
        subst this
        rw [List.take_length]
        have hany : nl.any (fun z => decide (z = tgt pl y)) = true := List.any_eq_true.2 ⟨_, hmem, by simp⟩
        rw [hany]
        clear ih
        simp -implicitDefEqProofs only [go_sem, Nat.reduceEqDiff, Nat.reduceAdd, Nat.reduceSub, Nat.reduceMul, Nat.reduceLeDiff, Nat.reduceLT, Nat.reduceBEq, Int.reduceToNat, Int.reduceLE, Int.reduceLT, Int.reduceEq, Int.reduceNe, Int.reduceAdd, Int.reduceSub, Int.reduceNeg, Int.toNat_natCast, Int.cast_ofNat_Int, Int.natCast_zero, Int.natCast_one, reduceCtorEq, reduceIte, Nat.lt_irrefl, and_self, not_false_eq_true, not_true_eq_false, LabH, nO, nM, nI, nP, Ins.v, Ins.row, Cal.v, Cal.row, ck]
        refine Run.rounds (fun (k : Nat) => ⟨[(118, .int .i64 k), (117, .int .i64 g.length), (83, .int .i64 j), (82, .int .i64 g.length), (12, .int .i64 j), (11, .ptr (9 * 10000 + 11) np 0 0), (8, .isl A), (4, .sl (9 * 10000 + 24) sg 0 g.length)], [((9 * 10000 + 11), np, .rows 11 [[.str [], .int .i64 0, .int .i64 0, .bool false, .int .i64 0, .isl A, .nils, .nils, .nils, .nils, .nils]]), ((9 * 10000 + 24), sg, .rows 8 GR)], m1⟩)
          (fun k => k ≤ g.length) (fun k => g.length - k) 0 (by simp -implicitDefEqProofs only [go_sem, Nat.reduceEqDiff, Nat.reduceAdd, Nat.reduceSub, Nat.reduceMul, Nat.reduceLeDiff, Nat.reduceLT, Nat.reduceBEq, Int.reduceToNat, Int.reduceLE, Int.reduceLT, Int.reduceEq, Int.reduceNe, Int.reduceAdd, Int.reduceSub, Int.reduceNeg, Int.toNat_natCast, Int.cast_ofNat_Int, Int.natCast_zero, Int.natCast_one, reduceCtorEq, reduceIte, Nat.lt_irrefl, and_self, not_false_eq_true, not_true_eq_false, LabH, nO, nM, nI, nP, Ins.v, Ins.row, Cal.v, Cal.row]) (by omega) ?_
        intro k hk ih
        have hzk : ((k + 1 : Nat) : Int) = (k : Int) + 1 := by omega
        refine Run.unf scriptinglaw38_LabelsFollows_l3_eq (Run.go 100 ?_)
        by_cases ck : (k : Int) < g.length
        · obtain ⟨z, hzz⟩ : ∃ z, g[k]? = some z := ⟨g[k]'(by omega), by simp⟩
          have hAk := hA4 k z hzz
          have hGk := hG4 k z hzz
          have q0 : ((0 : Int) ≤ (k : Int)) = True := eq_true (by omega)
          have q1 : ((k : Int) < (g.length : Int)) = True := eq_true ck
          have q2 : (k < g.length) = True := eq_true (by omega)
          have nx : ∀ s, Weak s ⟨[(118, .int .i64 ((k : Int) + 1)), (117, .int .i64 g.length), (83, .int .i64 j), (82, .int .i64 g.length), (12, .int .i64 j), (11, .ptr (9 * 10000 + 11) np 0 0), (8, .isl A), (4, .sl (9 * 10000 + 24) sg 0 g.length)], [((9 * 10000 + 11), np, .rows 11 [[.str [], .int .i64 0, .int .i64 0, .bool false, .int .i64 0, .isl A, .nils, .nils, .nils, .nils, .nils]]), ((9 * 10000 + 24), sg, .rows 8 GR)], m1⟩ → _ :=
            fun s hw => ih s (k + 1) (by omega) (by omega) (by simp only [hzk]; exact hw)
          clear ih
          by_cases z1 : z.kind = 1
          · by_cases z2 : z.label = y.label
            · have oz : outI pl z = { z.i with b := tgt pl y } := by rw [outI, if_pos z1, tgt, z2]; rfl
              rw [oz] at hAk
              simp -implicitDefEqProofs only [go_sem, Nat.reduceEqDiff, Nat.reduceAdd, Nat.reduceSub, Nat.reduceMul, Nat.reduceLeDiff, Nat.reduceLT, Nat.reduceBEq, Int.reduceToNat, Int.reduceLE, Int.reduceLT, Int.reduceEq, Int.reduceNe, Int.reduceAdd, Int.reduceSub, Int.reduceNeg, Int.toNat_natCast, Int.cast_ofNat_Int, Int.natCast_zero, Int.natCast_one, reduceCtorEq, reduceIte, Nat.lt_irrefl, and_self, not_false_eq_true, not_true_eq_false, LabH, nO, nM, nI, nP, Ins.v, Ins.row, Cal.v, Cal.row, z1, z2, hGk, hGj, hG0, hA, hA5, hAj, hAk, k0, k1, k2, q0, q1, q2, Option.some.injEq, forall_eq']
              exact ⟨by omega, nx _ (by simp -implicitDefEqProofs only [go_sem, Nat.reduceEqDiff, Nat.reduceAdd, Nat.reduceSub, Nat.reduceMul, Nat.reduceLeDiff, Nat.reduceLT, Nat.reduceBEq, Int.reduceToNat, Int.reduceLE, Int.reduceLT, Int.reduceEq, Int.reduceNe, Int.reduceAdd, Int.reduceSub, Int.reduceNeg, Int.toNat_natCast, Int.cast_ofNat_Int, Int.natCast_zero, Int.natCast_one, reduceCtorEq, reduceIte, Nat.lt_irrefl, and_self, not_false_eq_true, not_true_eq_false, LabH, nO, nM, nI, nP, Ins.v, Ins.row, Cal.v, Cal.row])⟩
            · simp -implicitDefEqProofs only [go_sem, Nat.reduceEqDiff, Nat.reduceAdd, Nat.reduceSub, Nat.reduceMul, Nat.reduceLeDiff, Nat.reduceLT, Nat.reduceBEq, Int.reduceToNat, Int.reduceLE, Int.reduceLT, Int.reduceEq, Int.reduceNe, Int.reduceAdd, Int.reduceSub, Int.reduceNeg, Int.toNat_natCast, Int.cast_ofNat_Int, Int.natCast_zero, Int.natCast_one, reduceCtorEq, reduceIte, Nat.lt_irrefl, and_self, not_false_eq_true, not_true_eq_false, LabH, nO, nM, nI, nP, Ins.v, Ins.row, Cal.v, Cal.row, z1, z2, hGk, hGj, hG0, hA, hA5, hAj, hAk, k0, k1, k2, q0, q1, q2, Option.some.injEq, forall_eq']
              exact ⟨by omega, nx _ (by simp -implicitDefEqProofs only [go_sem, Nat.reduceEqDiff, Nat.reduceAdd, Nat.reduceSub, Nat.reduceMul, Nat.reduceLeDiff, Nat.reduceLT, Nat.reduceBEq, Int.reduceToNat, Int.reduceLE, Int.reduceLT, Int.reduceEq, Int.reduceNe, Int.reduceAdd, Int.reduceSub, Int.reduceNeg, Int.toNat_natCast, Int.cast_ofNat_Int, Int.natCast_zero, Int.natCast_one, reduceCtorEq, reduceIte, Nat.lt_irrefl, and_self, not_false_eq_true, not_true_eq_false, LabH, nO, nM, nI, nP, Ins.v, Ins.row, Cal.v, Cal.row])⟩
          · simp -implicitDefEqProofs only [go_sem, Nat.reduceEqDiff, Nat.reduceAdd, Nat.reduceSub, Nat.reduceMul, Nat.reduceLeDiff, Nat.reduceLT, Nat.reduceBEq, Int.reduceToNat, Int.reduceLE, Int.reduceLT, Int.reduceEq, Int.reduceNe, Int.reduceAdd, Int.reduceSub, Int.reduceNeg, Int.toNat_natCast, Int.cast_ofNat_Int, Int.natCast_zero, Int.natCast_one, reduceCtorEq, reduceIte, Nat.lt_irrefl, and_self, not_false_eq_true, not_true_eq_false, LabH, nO, nM, nI, nP, Ins.v, Ins.row, Cal.v, Cal.row, z1, hGk, hGj, hG0, hA, hA5, hAj, hAk, k0, k1, k2, q0, q1, q2, Option.some.injEq, forall_eq']
            exact ⟨by omega, nx _ (by simp -implicitDefEqProofs only [go_sem, Nat.reduceEqDiff, Nat.reduceAdd, Nat.reduceSub, Nat.reduceMul, Nat.reduceLeDiff, Nat.reduceLT, Nat.reduceBEq, Int.reduceToNat, Int.reduceLE, Int.reduceLT, Int.reduceEq, Int.reduceNe, Int.reduceAdd, Int.reduceSub, Int.reduceNeg, Int.toNat_natCast, Int.cast_ofNat_Int, Int.natCast_zero, Int.natCast_one, reduceCtorEq, reduceIte, Nat.lt_irrefl, and_self, not_false_eq_true, not_true_eq_false, LabH, nO, nM, nI, nP, Ins.v, Ins.row, Cal.v, Cal.row])⟩
        · clear ih
          simp -implicitDefEqProofs only [go_sem, Nat.reduceEqDiff, Nat.reduceAdd, Nat.reduceSub, Nat.reduceMul, Nat.reduceLeDiff, Nat.reduceLT, Nat.reduceBEq, Int.reduceToNat, Int.reduceLE, Int.reduceLT, Int.reduceEq, Int.reduceNe, Int.reduceAdd, Int.reduceSub, Int.reduceNeg, Int.toNat_natCast, Int.cast_ofNat_Int, Int.natCast_zero, Int.natCast_one, reduceCtorEq, reduceIte, Nat.lt_irrefl, and_self, not_false_eq_true, not_true_eq_false, LabH, nO, nM, nI, nP, Ins.v, Ins.row, Cal.v, Cal.row, ck]
          exact ⟨by omega, next _ m1 (by simp -implicitDefEqProofs only [go_sem, Nat.reduceEqDiff, Nat.reduceAdd, Nat.reduceSub, Nat.reduceMul, Nat.reduceLeDiff, Nat.reduceLT, Nat.reduceBEq, Int.reduceToNat, Int.reduceLE, Int.reduceLT, Int.reduceEq, Int.reduceNe, Int.reduceAdd, Int.reduceSub, Int.reduceNeg, Int.toNat_natCast, Int.cast_ofNat_Int, Int.natCast_zero, Int.natCast_one, reduceCtorEq, reduceIte, Nat.lt_irrefl, and_self, not_false_eq_true, not_true_eq_false, LabH, nO, nM, nI, nP, Ins.v, Ins.row, Cal.v, Cal.row])⟩

end Go.Proofs.YtlckjdhammcpaaaDoor
