/-
  LabelsCalls: any calls have the defined results. No condition.
-/
import Derived.Test.YtlckjdhammcpaaaDoorLabC
import Derived.Test.YtlckjdhammcpaaaDoorArg
import Derived.Test.YtlckjdhammcpaaaDoorChecked
set_option linter.unusedVariables false
set_option linter.unusedSimpArgs false
set_option maxRecDepth 100000
set_option maxHeartbeats 0
namespace Go.Proofs.YtlckjdhammcpaaaDoor
open Go.Abs
attribute [local irreducible] CallS Run
-- EV: LabH, RefH, nO, nM, nI, nP, rO, rC, rL, rB, rP, Ins.v, Ins.row, Cal.v, Cal.row

theorem rowszI (ys : List Ins) : rowsz (ys.map Ins.row) 5 = True := eq_true fun r hr => by obtain ⟨y, _, rfl⟩ := List.mem_map.1 hr; rfl
theorem rowszL (ls : List Itm) : rowsz (ls.map lineR) 1 = True := eq_true fun r hr => by obtain ⟨y, _, rfl⟩ := List.mem_map.1 hr; rfl
theorem rowszC (cs : List Cal) : rowsz (cs.map Cal.row) 8 = True := eq_true fun r hr => by obtain ⟨y, _, rfl⟩ := List.mem_map.1 hr; rfl

theorem subI (φ : Nat → Nat → Nat → Nat → V) (ys : List Ins) : (ys.map Ins.row).map (fun r => r.map (V.sub φ)) = ys.map Ins.row := by
  rw [List.map_map]
  exact List.map_congr_left fun y _ => by simp [Ins.row, V.sub]
theorem subL (φ : Nat → Nat → Nat → Nat → V) (ls : List Itm) : (ls.map lineR).map (fun r => r.map (V.sub φ)) = ls.map lineR := by
  rw [List.map_map]
  exact List.map_congr_left fun y _ => by simp [lineR, V.sub]

theorem same_pure (ys : List Ins) (ls : List Itm) (hy : ys.length ≤ 1000) (hl : ls.length ≤ 1000) :
    Pure Tryd.prog 19 [.isl (ys.map Ins.row), .isl (ys.map Ins.row), .isl (ls.map lineR), .isl (ls.map lineR)] (.bool true) := by
  refine Pure.of 0 (CallS.enter scriptinglaw38_same_ok (Nat.le_of_ble_eq_true rfl) ?_)
  refine Run.go 100 ?_
  simp -implicitDefEqProofs only [go_sem, Nat.reduceEqDiff, Nat.reduceAdd, Nat.reduceSub, Nat.reduceMul, Nat.reduceLeDiff, Nat.reduceLT, Nat.reduceBEq, Int.reduceToNat, Int.reduceLE, Int.reduceLT, Int.reduceEq, Int.reduceNe, Int.reduceAdd, Int.reduceSub, Int.reduceNeg, Int.toNat_natCast, Int.cast_ofNat_Int, Int.natCast_zero, Int.natCast_one, reduceCtorEq, reduceIte, Nat.lt_irrefl, and_self, not_false_eq_true, not_true_eq_false, LabH, RefH, nO, nM, nI, nP, rO, rC, rL, rB, rP, Ins.v, Ins.row, Cal.v, Cal.row, initSl]
  refine Run.rounds (fun (k : Nat) => ⟨[(25, .int .i64 k), (24, .int .i64 ys.length), (3, .isl (ls.map lineR)), (2, .isl (ls.map lineR)), (1, .isl (ys.map Ins.row)), (0, .isl (ys.map Ins.row))], [], 0⟩) (fun k => k ≤ ys.length) (fun k => ys.length - k) 0 (by simp -implicitDefEqProofs only [go_sem, Nat.reduceEqDiff, Nat.reduceAdd, Nat.reduceSub, Nat.reduceMul, Nat.reduceLeDiff, Nat.reduceLT, Nat.reduceBEq, Int.reduceToNat, Int.reduceLE, Int.reduceLT, Int.reduceEq, Int.reduceNe, Int.reduceAdd, Int.reduceSub, Int.reduceNeg, Int.toNat_natCast, Int.cast_ofNat_Int, Int.natCast_zero, Int.natCast_one, reduceCtorEq, reduceIte, Nat.lt_irrefl, and_self, not_false_eq_true, not_true_eq_false, LabH, RefH, nO, nM, nI, nP, rO, rC, rL, rB, rP, Ins.v, Ins.row, Cal.v, Cal.row]) (by omega) ?_
  intro k hk ih
  refine Run.unf scriptinglaw38_same_l0_eq (Run.go 100 ?_)
  simp -implicitDefEqProofs only [go_sem, Nat.reduceEqDiff, Nat.reduceAdd, Nat.reduceSub, Nat.reduceMul, Nat.reduceLeDiff, Nat.reduceLT, Nat.reduceBEq, Int.reduceToNat, Int.reduceLE, Int.reduceLT, Int.reduceEq, Int.reduceNe, Int.reduceAdd, Int.reduceSub, Int.reduceNeg, Int.toNat_natCast, Int.cast_ofNat_Int, Int.natCast_zero, Int.natCast_one, reduceCtorEq, reduceIte, Nat.lt_irrefl, and_self, not_false_eq_true, not_true_eq_false, LabH, RefH, nO, nM, nI, nP, rO, rC, rL, rB, rP, Ins.v, Ins.row, Cal.v, Cal.row, rowszI]
  refine ⟨fun c => ⟨by omega, by omega, by omega, fun x hx => ⟨by omega, by omega, by omega, fun y hy => ?_⟩⟩, fun c => ?_⟩
  · obtain rfl : x = y := Option.some.inj (hx.symm.trans hy)
    refine ⟨fun h => by simp at h, fun _ => ⟨by omega, ih _ (k + 1) (by omega) (by omega) ?_⟩⟩
    have hz : ((k + 1 : Nat) : Int) = (k : Int) + 1 := by omega
    simp only [hz]
    simp -implicitDefEqProofs only [go_sem, Nat.reduceEqDiff, Nat.reduceAdd, Nat.reduceSub, Nat.reduceMul, Nat.reduceLeDiff, Nat.reduceLT, Nat.reduceBEq, Int.reduceToNat, Int.reduceLE, Int.reduceLT, Int.reduceEq, Int.reduceNe, Int.reduceAdd, Int.reduceSub, Int.reduceNeg, Int.toNat_natCast, Int.cast_ofNat_Int, Int.natCast_zero, Int.natCast_one, reduceCtorEq, reduceIte, Nat.lt_irrefl, and_self, not_false_eq_true, not_true_eq_false, LabH, RefH, nO, nM, nI, nP, rO, rC, rL, rB, rP, Ins.v, Ins.row, Cal.v, Cal.row]
  · clear ih
    refine Run.rounds (fun (k : Nat) => ⟨[(40, .int .i64 k), (39, .int .i64 ls.length), (3, .isl (ls.map lineR)), (2, .isl (ls.map lineR))], [], 0⟩) (fun k => k ≤ ls.length) (fun k => ls.length - k) 0 (by simp -implicitDefEqProofs only [go_sem, Nat.reduceEqDiff, Nat.reduceAdd, Nat.reduceSub, Nat.reduceMul, Nat.reduceLeDiff, Nat.reduceLT, Nat.reduceBEq, Int.reduceToNat, Int.reduceLE, Int.reduceLT, Int.reduceEq, Int.reduceNe, Int.reduceAdd, Int.reduceSub, Int.reduceNeg, Int.toNat_natCast, Int.cast_ofNat_Int, Int.natCast_zero, Int.natCast_one, reduceCtorEq, reduceIte, Nat.lt_irrefl, and_self, not_false_eq_true, not_true_eq_false, LabH, RefH, nO, nM, nI, nP, rO, rC, rL, rB, rP, Ins.v, Ins.row, Cal.v, Cal.row]) (by omega) ?_
    intro k hk ih
    refine Run.unf scriptinglaw38_same_l1_eq (Run.go 100 ?_)
    simp -implicitDefEqProofs only [go_sem, Nat.reduceEqDiff, Nat.reduceAdd, Nat.reduceSub, Nat.reduceMul, Nat.reduceLeDiff, Nat.reduceLT, Nat.reduceBEq, Int.reduceToNat, Int.reduceLE, Int.reduceLT, Int.reduceEq, Int.reduceNe, Int.reduceAdd, Int.reduceSub, Int.reduceNeg, Int.toNat_natCast, Int.cast_ofNat_Int, Int.natCast_zero, Int.natCast_one, reduceCtorEq, reduceIte, Nat.lt_irrefl, and_self, not_false_eq_true, not_true_eq_false, LabH, RefH, nO, nM, nI, nP, rO, rC, rL, rB, rP, Ins.v, Ins.row, Cal.v, Cal.row, rowszL, lineR]
    refine fun c => ⟨by omega, by omega, by omega, fun x hx => ⟨by omega, by omega, by omega, fun y hy => ?_⟩⟩
    obtain rfl : x = y := Option.some.inj (hx.symm.trans hy)
    refine ⟨fun h => absurd rfl h, fun _ => ⟨by omega, ih _ (k + 1) (by omega) (by omega) ?_⟩⟩
    have hz : ((k + 1 : Nat) : Int) = (k : Int) + 1 := by omega
    simp only [hz]
    simp -implicitDefEqProofs only [go_sem, Nat.reduceEqDiff, Nat.reduceAdd, Nat.reduceSub, Nat.reduceMul, Nat.reduceLeDiff, Nat.reduceLT, Nat.reduceBEq, Int.reduceToNat, Int.reduceLE, Int.reduceLT, Int.reduceEq, Int.reduceNe, Int.reduceAdd, Int.reduceSub, Int.reduceNeg, Int.toNat_natCast, Int.cast_ofNat_Int, Int.natCast_zero, Int.natCast_one, reduceCtorEq, reduceIte, Nat.lt_irrefl, and_self, not_false_eq_true, not_true_eq_false, LabH, RefH, nO, nM, nI, nP, rO, rC, rL, rB, rP, Ins.v, Ins.row, Cal.v, Cal.row]

theorem ins_of {row : List V} (h : Typed Tryd.prog 32 row) : ∃ i : Ins, row = i.row := by
  have h := h.fields Tryd.underlying32
  obtain ⟨a1, b1, rfl, h1, a2, b2, rfl, h2, a3, b3, rfl, h3, a4, b4, rfl, h4, a5, b5, rfl, h5, rfl⟩ := h
  obtain ⟨n1, rfl, _⟩ := h1.int_inv Tryd.underlying3
  obtain ⟨n2, rfl, _⟩ := h2.int_inv Tryd.underlying3
  obtain ⟨n3, rfl, _⟩ := h3.int_inv Tryd.underlying3
  obtain ⟨n4, rfl, _⟩ := h4.int_inv Tryd.underlying3
  obtain ⟨n5, rfl, _⟩ := h5.int_inv Tryd.underlying3
  exact ⟨⟨n1, n2, n3, n4, n5⟩, rfl⟩
theorem cal_of {row : List V} (h : Typed Tryd.prog 34 row) : ∃ c : Cal, row = c.row := by
  have h := h.fields Tryd.underlying34
  obtain ⟨a1, b1, rfl, h1, a2, b2, rfl, h2, a3, b3, rfl, h3, a4, b4, rfl, h4, rfl⟩ := h
  obtain ⟨n1, rfl, _⟩ := h1.int_inv Tryd.underlying3
  obtain ⟨i, rfl⟩ := ins_of h2
  obtain ⟨n3, rfl, _⟩ := h3.int_inv Tryd.underlying3
  obtain ⟨n4, rfl, _⟩ := h4.int_inv Tryd.underlying3
  exact ⟨⟨n1, i, n3, n4⟩, by simp [Cal.row, Ins.row]⟩
theorem cals_of {es : List (List V)} (h : ∀ row ∈ es, Typed Tryd.prog 34 row) : ∃ cs : List Cal, es = cs.map Cal.row := by
  obtain ⟨cs, h1, _⟩ := rows_map (f := Cal.row) (p := fun _ => True) (es := es) fun row hr => by obtain ⟨c, h⟩ := cal_of (h row hr); exact ⟨c, h, trivial⟩
  exact ⟨cs, h1⟩

/-- The code behind some calls. -/
def Lab.run (L : Lab) : List Cal → Lab
  | [] => L
  | c :: r => Lab.run (L.call c).2.2 r
theorem Lab.run_append (L : Lab) (xs ys : List Cal) : L.run (xs ++ ys) = (L.run xs).run ys := by
  induction xs generalizing L with
  | nil => rfl
  | cons x r ih => exact ih _
def at_ (cs : List Cal) (k : Nat) : Lab := Lab.new.run (cs.take k)
theorem at_succ {cs : List Cal} {k : Nat} {c : Cal} (h : cs[k]? = some c) : at_ cs (k + 1) = ((at_ cs k).call c).2.2 := by
  unfold at_
  rw [List.take_add_one, h, Option.toList_some, Lab.run_append]; rfl
theorem at_in (cs : List Cal) : ∀ k, (at_ cs k).In k
  | 0 => Lab.In.new
  | k + 1 => by
    cases h : cs[k]? with
    | some c => rw [at_succ h]; exact (at_in cs k).call c
    | none =>
      have : at_ cs (k + 1) = at_ cs k := by unfold at_; rw [List.take_add_one, h]; simp
      rw [this]; exact (at_in cs k).up (by omega)

theorem fixes_len (L : Lab) : ∀ (l : List Itm) ys, L.fixes l = some ys → ys.length = l.length := by
  intro l
  induction l with
  | nil => intro ys h; simp [Lab.fixes] at h; subst h; rfl
  | cons x r ih =>
    intro ys h
    simp only [Lab.fixes] at h
    split at h
    · rename_i y zs _ h2
      injection h with h; subst h
      simp [ih _ h2]
    · cases h

/-- What 'Finish' hands back: the code, the lines' items, the error. -/
def Lab.fin (L : Lab) : List Ins × List Itm × Int := match L.finish with
  | some ys => (ys, L.items, 0)
  | none => ([], [], 12)
theorem finV_eq (L : Lab) : finV L = .tup [.isl (L.fin.1.map Ins.row), .isl (L.fin.2.1.map lineR), .int .i64 L.fin.2.2] := by
  unfold finV Lab.fin
  cases L.finish <;> rfl
theorem fin_len {L : Lab} (h : L.items.length ≤ 1000) : L.fin.1.length ≤ 1000 ∧ L.fin.2.1.length ≤ 1000 := by
  unfold Lab.fin
  cases hf : L.finish with
  | none => simp
  | some ys => have := fixes_len L _ _ hf; simp; omega

theorem labelsCalls_args (n0 : List (List V)) (l0 : n0.length ≤ maxLen) (w0 : ∀ row ∈ n0, Typed Tryd.prog 34 row) : Pure Tryd.prog 3 [.isl n0] (.bool true) := by
  obtain ⟨cs, rfl⟩ := cals_of w0
  refine Pure.of 0 (CallS.enter scriptinglaw38_LabelsCalls_ok (Nat.le_of_ble_eq_true rfl) ?_)
  refine Run.go 100 ?_
  simp -implicitDefEqProofs only [go_sem, Nat.reduceEqDiff, Nat.reduceAdd, Nat.reduceSub, Nat.reduceMul, Nat.reduceLeDiff, Nat.reduceLT, Nat.reduceBEq, Int.reduceToNat, Int.reduceLE, Int.reduceLT, Int.reduceEq, Int.reduceNe, Int.reduceAdd, Int.reduceSub, Int.reduceNeg, Int.toNat_natCast, Int.cast_ofNat_Int, Int.natCast_zero, Int.natCast_one, reduceCtorEq, reduceIte, Nat.lt_irrefl, and_self, not_false_eq_true, not_true_eq_false, LabH, RefH, nO, nM, nI, nP, rO, rC, rL, rB, rP, Ins.v, Ins.row, Cal.v, Cal.row, initSl]
  refine ⟨fun h => ?_, fun h => ?_⟩
  · refine CallS.pureF awake_pure (by simp -implicitDefEqProofs only [go_sem, Nat.reduceEqDiff, Nat.reduceAdd, Nat.reduceSub, Nat.reduceMul, Nat.reduceLeDiff, Nat.reduceLT, Nat.reduceBEq, Int.reduceToNat, Int.reduceLE, Int.reduceLT, Int.reduceEq, Int.reduceNe, Int.reduceAdd, Int.reduceSub, Int.reduceNeg, Int.toNat_natCast, Int.cast_ofNat_Int, Int.natCast_zero, Int.natCast_one, reduceCtorEq, reduceIte, Nat.lt_irrefl, and_self, not_false_eq_true, not_true_eq_false, LabH, RefH, nO, nM, nI, nP, rO, rC, rL, rB, rP, Ins.v, Ins.row, Cal.v, Cal.row]) ?_
    simp -implicitDefEqProofs only [go_sem, Nat.reduceEqDiff, Nat.reduceAdd, Nat.reduceSub, Nat.reduceMul, Nat.reduceLeDiff, Nat.reduceLT, Nat.reduceBEq, Int.reduceToNat, Int.reduceLE, Int.reduceLT, Int.reduceEq, Int.reduceNe, Int.reduceAdd, Int.reduceSub, Int.reduceNeg, Int.toNat_natCast, Int.cast_ofNat_Int, Int.natCast_zero, Int.natCast_one, reduceCtorEq, reduceIte, Nat.lt_irrefl, and_self, not_false_eq_true, not_true_eq_false, LabH, RefH, nO, nM, nI, nP, rO, rC, rL, rB, rP, Ins.v, Ins.row, Cal.v, Cal.row]
  refine CallS.at [] [] (new_c _) rfl rfl ?_
  rintro r h' n' hn ⟨so, sm, si, sp, rfl, rfl⟩
  simp -implicitDefEqProofs only [go_sem, Nat.reduceEqDiff, Nat.reduceAdd, Nat.reduceSub, Nat.reduceMul, Nat.reduceLeDiff, Nat.reduceLT, Nat.reduceBEq, Int.reduceToNat, Int.reduceLE, Int.reduceLT, Int.reduceEq, Int.reduceNe, Int.reduceAdd, Int.reduceSub, Int.reduceNeg, Int.toNat_natCast, Int.cast_ofNat_Int, Int.natCast_zero, Int.natCast_one, reduceCtorEq, reduceIte, Nat.lt_irrefl, and_self, not_false_eq_true, not_true_eq_false, LabH, RefH, nO, nM, nI, nP, rO, rC, rL, rB, rP, Ins.v, Ins.row, Cal.v, Cal.row, Lab.new]
  refine CallS.at [] [0, 1, 2, 3] (rnew_c _) rfl rfl ?_
  rintro r h' n' hn ⟨ro, rc, rl, rb, rp, rfl, rfl⟩
  simp -implicitDefEqProofs only [go_sem, Nat.reduceEqDiff, Nat.reduceAdd, Nat.reduceSub, Nat.reduceMul, Nat.reduceLeDiff, Nat.reduceLT, Nat.reduceBEq, Int.reduceToNat, Int.reduceLE, Int.reduceLT, Int.reduceEq, Int.reduceNe, Int.reduceAdd, Int.reduceSub, Int.reduceNeg, Int.toNat_natCast, Int.cast_ofNat_Int, Int.natCast_zero, Int.natCast_one, reduceCtorEq, reduceIte, Nat.lt_irrefl, and_self, not_false_eq_true, not_true_eq_false, LabH, RefH, nO, nM, nI, nP, rO, rC, rL, rB, rP, Ins.v, Ins.row, Cal.v, Cal.row, Lab.new]
  refine Run.rounds (fun (x : Nat × (Nat × Nat) × (Nat × Nat × Nat × Nat) × Nat) => ⟨[(24, .int .i64 x.1), (23, .int .i64 cs.length), (4, .ptr rO ro 0 0), (3, .ptr nO so 0 0), (0, .isl (cs.map Cal.row))],
      RefH ro x.2.2.1.1 x.2.2.1.2.1 x.2.2.1.2.2.1 x.2.2.1.2.2.2 (at_ cs x.1) ++ LabH so sm x.2.1.1 x.2.1.2 (at_ cs x.1), x.2.2.2⟩)
    (fun x => x.1 ≤ cs.length) (fun x => cs.length - x.1) (0, (si, sp), (rc, rl, rb, rp), n') (by simp -implicitDefEqProofs only [go_sem, Nat.reduceEqDiff, Nat.reduceAdd, Nat.reduceSub, Nat.reduceMul, Nat.reduceLeDiff, Nat.reduceLT, Nat.reduceBEq, Int.reduceToNat, Int.reduceLE, Int.reduceLT, Int.reduceEq, Int.reduceNe, Int.reduceAdd, Int.reduceSub, Int.reduceNeg, Int.toNat_natCast, Int.cast_ofNat_Int, Int.natCast_zero, Int.natCast_one, reduceCtorEq, reduceIte, Nat.lt_irrefl, and_self, not_false_eq_true, not_true_eq_false, LabH, RefH, nO, nM, nI, nP, rO, rC, rL, rB, rP, Ins.v, Ins.row, Cal.v, Cal.row, at_, Lab.run, Lab.new]) (by simp only; omega) ?_
  rintro ⟨k, ⟨si, sp⟩, ⟨rc, rl, rb, rp⟩, m⟩ hk ih
  simp only at hk ⊢
  refine Run.unf scriptinglaw38_LabelsCalls_l0_eq (Run.go 100 ?_)
  simp -implicitDefEqProofs only [go_sem, Nat.reduceEqDiff, Nat.reduceAdd, Nat.reduceSub, Nat.reduceMul, Nat.reduceLeDiff, Nat.reduceLT, Nat.reduceBEq, Int.reduceToNat, Int.reduceLE, Int.reduceLT, Int.reduceEq, Int.reduceNe, Int.reduceAdd, Int.reduceSub, Int.reduceNeg, Int.toNat_natCast, Int.cast_ofNat_Int, Int.natCast_zero, Int.natCast_one, reduceCtorEq, reduceIte, Nat.lt_irrefl, and_self, not_false_eq_true, not_true_eq_false, LabH, RefH, nO, nM, nI, nP, rO, rC, rL, rB, rP, Ins.v, Ins.row, Cal.v, Cal.row, rowszC]
  refine ⟨fun c => ⟨by omega, by omega, by omega, fun x hx => ?_⟩, fun c => ?_⟩
  · have hin := at_in cs k
    have hok := hin.ok (by omega)
    have hin' := at_in cs (k + 1)
    rw [at_succ hx] at hin'
    have hok' := hin'.ok (by omega)
    refine CallS.at [5, 6, 7, 8] [0, 1, 2, 3, 4] (program_c (at_ cs k) so sm si sp _ x hok) rfl rfl ?_
    rintro r h' n' hn ⟨si', sp', rfl, rfl⟩
    simp -implicitDefEqProofs only [go_sem, Nat.reduceEqDiff, Nat.reduceAdd, Nat.reduceSub, Nat.reduceMul, Nat.reduceLeDiff, Nat.reduceLT, Nat.reduceBEq, Int.reduceToNat, Int.reduceLE, Int.reduceLT, Int.reduceEq, Int.reduceNe, Int.reduceAdd, Int.reduceSub, Int.reduceNeg, Int.toNat_natCast, Int.cast_ofNat_Int, Int.natCast_zero, Int.natCast_one, reduceCtorEq, reduceIte, Nat.lt_irrefl, and_self, not_false_eq_true, not_true_eq_false, LabH, RefH, nO, nM, nI, nP, rO, rC, rL, rB, rP, Ins.v, Ins.row, Cal.v, Cal.row, rowszC]
    refine ⟨by omega, by omega, by omega, fun x1 hx1 => ?_⟩
    obtain rfl : x = x1 := Option.some.inj (hx.symm.trans hx1)
    refine CallS.at [4, 5, 6, 7, 8] [0, 1, 2, 3] (document_c (at_ cs k) ro rc rl rb rp _ x hok) rfl rfl ?_
    rintro r h' n' hn ⟨rc', rl', rb', rp', rfl, rfl⟩
    simp -implicitDefEqProofs only [go_sem, Nat.reduceEqDiff, Nat.reduceAdd, Nat.reduceSub, Nat.reduceMul, Nat.reduceLeDiff, Nat.reduceLT, Nat.reduceBEq, Int.reduceToNat, Int.reduceLE, Int.reduceLT, Int.reduceEq, Int.reduceNe, Int.reduceAdd, Int.reduceSub, Int.reduceNeg, Int.toNat_natCast, Int.cast_ofNat_Int, Int.natCast_zero, Int.natCast_one, reduceCtorEq, reduceIte, Nat.lt_irrefl, and_self, not_false_eq_true, not_true_eq_false, LabH, RefH, nO, nM, nI, nP, rO, rC, rL, rB, rP, Ins.v, Ins.row, Cal.v, Cal.row]
    refine CallS.at [5, 6, 7, 8] [0, 1, 2, 3, 4] (len_c ((at_ cs k).call x).2.2 so sm si' sp' _) rfl rfl ?_
    rintro r h' n' hn ⟨rfl, rfl⟩
    simp -implicitDefEqProofs only [go_sem, Nat.reduceEqDiff, Nat.reduceAdd, Nat.reduceSub, Nat.reduceMul, Nat.reduceLeDiff, Nat.reduceLT, Nat.reduceBEq, Int.reduceToNat, Int.reduceLE, Int.reduceLT, Int.reduceEq, Int.reduceNe, Int.reduceAdd, Int.reduceSub, Int.reduceNeg, Int.toNat_natCast, Int.cast_ofNat_Int, Int.natCast_zero, Int.natCast_one, reduceCtorEq, reduceIte, Nat.lt_irrefl, and_self, not_false_eq_true, not_true_eq_false, LabH, RefH, nO, nM, nI, nP, rO, rC, rL, rB, rP, Ins.v, Ins.row, Cal.v, Cal.row]
    refine CallS.at [4, 5, 6, 7, 8] [0, 1, 2, 3] (rlen_c ((at_ cs k).call x).2.2 ro rc' rl' rb' rp' _) rfl rfl ?_
    rintro r h' n' hn ⟨rfl, rfl⟩
    simp -implicitDefEqProofs only [go_sem, Nat.reduceEqDiff, Nat.reduceAdd, Nat.reduceSub, Nat.reduceMul, Nat.reduceLeDiff, Nat.reduceLT, Nat.reduceBEq, Int.reduceToNat, Int.reduceLE, Int.reduceLT, Int.reduceEq, Int.reduceNe, Int.reduceAdd, Int.reduceSub, Int.reduceNeg, Int.toNat_natCast, Int.cast_ofNat_Int, Int.natCast_zero, Int.natCast_one, reduceCtorEq, reduceIte, Nat.lt_irrefl, and_self, not_false_eq_true, not_true_eq_false, LabH, RefH, nO, nM, nI, nP, rO, rC, rL, rB, rP, Ins.v, Ins.row, Cal.v, Cal.row]
    have hz : ((k + 1 : Nat) : Int) = (k : Int) + 1 := by omega
    refine ⟨fun c1 => ⟨by omega, fun c2 => ⟨by omega, ?_⟩, fun c2 => ?_⟩, fun c1 => ?_⟩
    · refine ih _ (k + 1, (si', sp'), (rc', rl', rb', rp'), n') (by simp only; omega) (by simp only; omega) ?_
      simp only [hz, at_succ hx]
      simp -implicitDefEqProofs only [go_sem, Nat.reduceEqDiff, Nat.reduceAdd, Nat.reduceSub, Nat.reduceMul, Nat.reduceLeDiff, Nat.reduceLT, Nat.reduceBEq, Int.reduceToNat, Int.reduceLE, Int.reduceLT, Int.reduceEq, Int.reduceNe, Int.reduceAdd, Int.reduceSub, Int.reduceNeg, Int.toNat_natCast, Int.cast_ofNat_Int, Int.natCast_zero, Int.natCast_one, reduceCtorEq, reduceIte, Nat.lt_irrefl, and_self, not_false_eq_true, not_true_eq_false, LabH, RefH, nO, nM, nI, nP, rO, rC, rL, rB, rP, Ins.v, Ins.row, Cal.v, Cal.row]
    all_goals (
      refine CallS.at [5, 6, 7, 8] [0, 1, 2, 3, 4] (finishD_c ((at_ cs k).call x).2.2 so sm si' sp' _ hok') rfl rfl ?_
      rintro r h' n' hn ⟨rfl, rfl⟩
      rw [finV_eq]
      simp -implicitDefEqProofs only [go_sem, Nat.reduceEqDiff, Nat.reduceAdd, Nat.reduceSub, Nat.reduceMul, Nat.reduceLeDiff, Nat.reduceLT, Nat.reduceBEq, Int.reduceToNat, Int.reduceLE, Int.reduceLT, Int.reduceEq, Int.reduceNe, Int.reduceAdd, Int.reduceSub, Int.reduceNeg, Int.toNat_natCast, Int.cast_ofNat_Int, Int.natCast_zero, Int.natCast_one, reduceCtorEq, reduceIte, Nat.lt_irrefl, and_self, not_false_eq_true, not_true_eq_false, LabH, RefH, nO, nM, nI, nP, rO, rC, rL, rB, rP, Ins.v, Ins.row, Cal.v, Cal.row]
      refine CallS.at [4, 5, 6, 7, 8] [0, 1, 2, 3] (rfinish_c ((at_ cs k).call x).2.2 ro rc' rl' rb' rp' _ hok') rfl rfl ?_
      rintro r h' n' hn ⟨rfl, rfl⟩
      rw [finV_eq]
      simp -implicitDefEqProofs only [go_sem, Nat.reduceEqDiff, Nat.reduceAdd, Nat.reduceSub, Nat.reduceMul, Nat.reduceLeDiff, Nat.reduceLT, Nat.reduceBEq, Int.reduceToNat, Int.reduceLE, Int.reduceLT, Int.reduceEq, Int.reduceNe, Int.reduceAdd, Int.reduceSub, Int.reduceNeg, Int.toNat_natCast, Int.cast_ofNat_Int, Int.natCast_zero, Int.natCast_one, reduceCtorEq, reduceIte, Nat.lt_irrefl, and_self, not_false_eq_true, not_true_eq_false, LabH, RefH, nO, nM, nI, nP, rO, rC, rL, rB, rP, Ins.v, Ins.row, Cal.v, Cal.row]
      obtain ⟨f1, f2⟩ := fin_len hok'.items
      refine CallS.pureF (same_pure _ _ f1 f2) (by simp -implicitDefEqProofs only [go_sem, Nat.reduceEqDiff, Nat.reduceAdd, Nat.reduceSub, Nat.reduceMul, Nat.reduceLeDiff, Nat.reduceLT, Nat.reduceBEq, Int.reduceToNat, Int.reduceLE, Int.reduceLT, Int.reduceEq, Int.reduceNe, Int.reduceAdd, Int.reduceSub, Int.reduceNeg, Int.toNat_natCast, Int.cast_ofNat_Int, Int.natCast_zero, Int.natCast_one, reduceCtorEq, reduceIte, Nat.lt_irrefl, and_self, not_false_eq_true, not_true_eq_false, LabH, RefH, nO, nM, nI, nP, rO, rC, rL, rB, rP, Ins.v, Ins.row, Cal.v, Cal.row, subI, subL]) ?_
      simp -implicitDefEqProofs only [go_sem, Nat.reduceEqDiff, Nat.reduceAdd, Nat.reduceSub, Nat.reduceMul, Nat.reduceLeDiff, Nat.reduceLT, Nat.reduceBEq, Int.reduceToNat, Int.reduceLE, Int.reduceLT, Int.reduceEq, Int.reduceNe, Int.reduceAdd, Int.reduceSub, Int.reduceNeg, Int.toNat_natCast, Int.cast_ofNat_Int, Int.natCast_zero, Int.natCast_one, reduceCtorEq, reduceIte, Nat.lt_irrefl, and_self, not_false_eq_true, not_true_eq_false, LabH, RefH, nO, nM, nI, nP, rO, rC, rL, rB, rP, Ins.v, Ins.row, Cal.v, Cal.row]
      refine ⟨by omega, ih _ (k + 1, (si', sp'), (rc', rl', rb', rp'), n') (by simp only; omega) (by simp only; omega) ?_⟩
      simp only [hz, at_succ hx]
      simp -implicitDefEqProofs only [go_sem, Nat.reduceEqDiff, Nat.reduceAdd, Nat.reduceSub, Nat.reduceMul, Nat.reduceLeDiff, Nat.reduceLT, Nat.reduceBEq, Int.reduceToNat, Int.reduceLE, Int.reduceLT, Int.reduceEq, Int.reduceNe, Int.reduceAdd, Int.reduceSub, Int.reduceNeg, Int.toNat_natCast, Int.cast_ofNat_Int, Int.natCast_zero, Int.natCast_one, reduceCtorEq, reduceIte, Nat.lt_irrefl, and_self, not_false_eq_true, not_true_eq_false, LabH, RefH, nO, nM, nI, nP, rO, rC, rL, rB, rP, Ins.v, Ins.row, Cal.v, Cal.row])
  · refine CallS.pureF awake_pure (by simp -implicitDefEqProofs only [go_sem, Nat.reduceEqDiff, Nat.reduceAdd, Nat.reduceSub, Nat.reduceMul, Nat.reduceLeDiff, Nat.reduceLT, Nat.reduceBEq, Int.reduceToNat, Int.reduceLE, Int.reduceLT, Int.reduceEq, Int.reduceNe, Int.reduceAdd, Int.reduceSub, Int.reduceNeg, Int.toNat_natCast, Int.cast_ofNat_Int, Int.natCast_zero, Int.natCast_one, reduceCtorEq, reduceIte, Nat.lt_irrefl, and_self, not_false_eq_true, not_true_eq_false, LabH, RefH, nO, nM, nI, nP, rO, rC, rL, rB, rP, Ins.v, Ins.row, Cal.v, Cal.row]) ?_
    simp -implicitDefEqProofs only [go_sem, Nat.reduceEqDiff, Nat.reduceAdd, Nat.reduceSub, Nat.reduceMul, Nat.reduceLeDiff, Nat.reduceLT, Nat.reduceBEq, Int.reduceToNat, Int.reduceLE, Int.reduceLT, Int.reduceEq, Int.reduceNe, Int.reduceAdd, Int.reduceSub, Int.reduceNeg, Int.toNat_natCast, Int.cast_ofNat_Int, Int.natCast_zero, Int.natCast_one, reduceCtorEq, reduceIte, Nat.lt_irrefl, and_self, not_false_eq_true, not_true_eq_false, LabH, RefH, nO, nM, nI, nP, rO, rC, rL, rB, rP, Ins.v, Ins.row, Cal.v, Cal.row]

end Go.Proofs.YtlckjdhammcpaaaDoor
