/-
  What 'Finish' of 'labels' does. No condition.
-/
import Derived.Test.YtlckjdhammcpaaaDoorLab
set_option linter.unusedVariables false
set_option linter.unusedSimpArgs false
set_option maxRecDepth 100000
set_option maxHeartbeats 0
namespace Go.Proofs.YtlckjdhammcpaaaDoor
open Go.Abs
attribute [local irreducible] CallS Run
-- EV: LabH, nO, nM, nI, nP, Itm.row, Ins.v, Ins.row, prow, nFC, nFL, bFC, bFL, bFX, lineR

/-! The finished code: two slices, given up to the caller as data. -/
abbrev nFC : Nat := (17 * 10000 + 5001)
abbrev nFL : Nat := (17 * 10000 + 5002)

def finV (L : Lab) : V := match L.finish with
  | some ys => .tup [.isl (ys.map Ins.row), .isl (L.items.map fun x => [.int .i64 x.line]), .int .i64 0]
  | none => .tup [.isl [], .isl [], .int .i64 12]

/-- As memory of the caller. -/
def finH (so sm si sp : Nat) (L : Lab) (r : V) (h : Heap) : Prop := match L.finish with
  | some ys => ∃ s1 s2, r = .tup [.sl nFC s1 0 L.items.length, .sl nFL s2 0 L.items.length, .int .i64 0] ∧ h = (nFC, s1, .rows 5 (ys.map Ins.row)) :: (nFL, s2, .rows 1 (L.items.map fun x => [.int .i64 x.line])) :: LabH so sm si sp L
  | none => r = .tup [.nils, .nils, .int .i64 12] ∧ h = LabH so sm si sp L

abbrev bFC : Nat := (17 * 10000 + 5)
abbrev bFL : Nat := (17 * 10000 + 6)
abbrev bFX : Nat := (17 * 10000 + 8)

def lineR (x : Itm) : List V := [.int .i64 x.line]

theorem addI_c (sb s1 k n : Nat) (rs : List (List V)) (i : Ins) (hk : rs.length = k) (hB : k ≤ 1000) :
    CallS Tryd.prog 30 [.ptr bFC sb 0 0, i.v] [(bFC, sb, .rows 1 [[.sl nFC s1 0 k]]), (nFC, s1, .rows 5 rs)] n
      (fun r h' _ => ∃ s1', r = .int .i64 (k : Nat) ∧ h' = [(bFC, sb, .rows 1 [[.sl nFC s1' 0 (k + 1)]]), (nFC, s1', .rows 5 (rs ++ [i.row]))]) := by
  subst hk
  refine CallS.enterK labels_add_api_Instr_ok (Nat.le_of_ble_eq_true rfl) fun Q hQ => Run.go 100 ?_
  simp -implicitDefEqProofs only [go_sem, Nat.reduceEqDiff, Nat.reduceAdd, Nat.reduceSub, Nat.reduceMul, Nat.reduceLeDiff, Nat.reduceLT, Nat.reduceBEq, Int.reduceToNat, Int.reduceLE, Int.reduceLT, Int.reduceEq, Int.reduceNe, Int.reduceAdd, Int.reduceSub, Int.reduceNeg, Int.toNat_natCast, Int.cast_ofNat_Int, Int.natCast_zero, Int.natCast_one, reduceCtorEq, reduceIte, Nat.lt_irrefl, and_self, not_false_eq_true, not_true_eq_false, LabH, nO, nM, nI, nP, Itm.row, Ins.v, Ins.row, prow, nFC, nFL, bFC, bFL, bFX, lineR, initSl]
  subst hQ
  exact ⟨by omega, by omega, .to ⟨n + 1, rfl, rfl⟩ (.turn id ⟨(by first | exact SameV.refl _ | (refine SameV.of_eq ?_; simp [sget]; done) | (refine SameV.of_eq ?_; simp [sget, LabH, nO, nM, nI, nP, Itm.row, Ins.v, Ins.row, prow, nFC, nFL, bFC, bFL, bFX, lineR]; done)), trivial⟩ (.at 0 rfl rfl (by first | exact SameB.refl _ | (refine SameB.of_eq ?_; simp; done) | (refine SameB.of_eq ?_; simp [LabH, nO, nM, nI, nP, Itm.row, Ins.v, Ins.row, prow, nFC, nFL, bFC, bFL, bFX, lineR]; done)) (.at 1 rfl rfl (by first | exact SameB.refl _ | (refine SameB.of_eq ?_; simp; done) | (refine SameB.of_eq ?_; simp [LabH, nO, nM, nI, nP, Itm.row, Ins.v, Ins.row, prow, nFC, nFL, bFC, bFL, bFX, lineR]; done)) trivial)))⟩
theorem addL_c (sb s1 k n : Nat) (rs : List (List V)) (z : Int) (hk : rs.length = k) (hB : k ≤ 1000) :
    CallS Tryd.prog 31 [.ptr bFL sb 0 0, .int .i64 z] [(bFL, sb, .rows 1 [[.sl nFL s1 0 k]]), (nFL, s1, .rows 1 rs)] n
      (fun r h' _ => ∃ s1', r = .int .i64 (k : Nat) ∧ h' = [(bFL, sb, .rows 1 [[.sl nFL s1' 0 (k + 1)]]), (nFL, s1', .rows 1 (rs ++ [[.int .i64 z]]))]) := by
  subst hk
  refine CallS.enterK labels_add_int_ok (Nat.le_of_ble_eq_true rfl) fun Q hQ => Run.go 100 ?_
  simp -implicitDefEqProofs only [go_sem, Nat.reduceEqDiff, Nat.reduceAdd, Nat.reduceSub, Nat.reduceMul, Nat.reduceLeDiff, Nat.reduceLT, Nat.reduceBEq, Int.reduceToNat, Int.reduceLE, Int.reduceLT, Int.reduceEq, Int.reduceNe, Int.reduceAdd, Int.reduceSub, Int.reduceNeg, Int.toNat_natCast, Int.cast_ofNat_Int, Int.natCast_zero, Int.natCast_one, reduceCtorEq, reduceIte, Nat.lt_irrefl, and_self, not_false_eq_true, not_true_eq_false, LabH, nO, nM, nI, nP, Itm.row, Ins.v, Ins.row, prow, nFC, nFL, bFC, bFL, bFX, lineR, initSl]
  subst hQ
  exact ⟨by omega, by omega, .to ⟨n, rfl, rfl⟩ (.turn id ⟨(by first | exact SameV.refl _ | (refine SameV.of_eq ?_; simp [sget]; done) | (refine SameV.of_eq ?_; simp [sget, LabH, nO, nM, nI, nP, Itm.row, Ins.v, Ins.row, prow, nFC, nFL, bFC, bFL, bFX, lineR]; done)), trivial⟩ (.at 0 rfl rfl (by first | exact SameB.refl _ | (refine SameB.of_eq ?_; simp; done) | (refine SameB.of_eq ?_; simp [LabH, nO, nM, nI, nP, Itm.row, Ins.v, Ins.row, prow, nFC, nFL, bFC, bFL, bFX, lineR]; done)) (.at 1 rfl rfl (by first | exact SameB.refl _ | (refine SameB.of_eq ?_; simp; done) | (refine SameB.of_eq ?_; simp [LabH, nO, nM, nI, nP, Itm.row, Ins.v, Ins.row, prow, nFC, nFL, bFC, bFL, bFX, lineR]; done)) trivial)))⟩

theorem finish_c (L : Lab) (so sm si sp n : Nat) (hok : L.OK) :
    CallS Tryd.prog 17 [.ptr nO so 0 0] (LabH so sm si sp L) n (fun r h' _ => finH so sm si sp L r h') := by
  refine CallS.enterK labels_Code_Finish_ok (Nat.le_of_ble_eq_true rfl) fun Q hQ => Run.go 100 ?_
  simp -implicitDefEqProofs only [go_sem, Nat.reduceEqDiff, Nat.reduceAdd, Nat.reduceSub, Nat.reduceMul, Nat.reduceLeDiff, Nat.reduceLT, Nat.reduceBEq, Int.reduceToNat, Int.reduceLE, Int.reduceLT, Int.reduceEq, Int.reduceNe, Int.reduceAdd, Int.reduceSub, Int.reduceNeg, Int.toNat_natCast, Int.cast_ofNat_Int, Int.natCast_zero, Int.natCast_one, reduceCtorEq, reduceIte, Nat.lt_irrefl, and_self, not_false_eq_true, not_true_eq_false, LabH, nO, nM, nI, nP, Itm.row, Ins.v, Ins.row, prow, nFC, nFL, bFC, bFL, bFX, lineR, initSl]
  have hI := hok.items
  refine Run.roundsK (fun (x : Nat × List Ins × Nat × Nat × Nat) => ⟨[(16, .int .i64 x.1), (15, .int .i64 L.items.length), (14, .sl nI si 0 L.items.length), (6, .ptr bFL (n + 1) 0 0), (5, .ptr bFC n 0 0), (0, .ptr nO so 0 0)],
      [(bFL, n + 1, .rows 1 [[.sl nFL x.2.2.2.1 0 x.1]]), (bFC, n, .rows 1 [[.sl nFC x.2.2.1 0 x.1]]), (nFC, x.2.2.1, .rows 5 (x.2.1.map Ins.row)), (nFL, x.2.2.2.1, .rows 1 ((L.items.take x.1).map lineR)),
       (nO, so, .rows 3 [[.sl nI si 0 L.items.length, .sl nP sp 0 L.places.length, .mp nM sm]]), (nM, sm, .map (opens 0 L.places)), (nI, si, .rows 7 (L.items.map Itm.row)), (nP, sp, .rows 1 (L.places.map prow))], x.2.2.2.2⟩)
    (fun x => x.1 ≤ L.items.length ∧ L.fixes (L.items.take x.1) = some x.2.1 ∧ x.2.1.length = x.1) (fun x => L.items.length - x.1) (0, [], n + 2, n + 3, n + 4) ?_ ⟨by omega, rfl, rfl⟩ ?_
  · refine .trans (.fresh nFC 5 _ _ _) (.trans (.fresh nFL 1 _ _ _) (.turn id ?_ (.at 2 rfl rfl (.row ⟨.nils, trivial⟩) (.at 3 rfl rfl (.row ⟨.nils, trivial⟩) (.at 1 rfl rfl (.refl _) (.at 0 rfl rfl (.refl _) (.at 4 rfl rfl (.refl _) (.at 5 rfl rfl (.refl _) (.at 6 rfl rfl (.refl _) (.at 7 rfl rfl (.refl _) trivial))))))))))
    exact ⟨.refl _, .refl _, .refl _, .refl _, .refl _, .refl _, trivial⟩
  rintro ⟨k, ys, s1, s2, m⟩ ⟨hk, hy, hl⟩ ih
  simp only at hk hy hl ⊢
  refine Run.unf labels_Code_Finish_l0_eq (Run.go 100 ?_)
  simp -implicitDefEqProofs only [go_sem, Nat.reduceEqDiff, Nat.reduceAdd, Nat.reduceSub, Nat.reduceMul, Nat.reduceLeDiff, Nat.reduceLT, Nat.reduceBEq, Int.reduceToNat, Int.reduceLE, Int.reduceLT, Int.reduceEq, Int.reduceNe, Int.reduceAdd, Int.reduceSub, Int.reduceNeg, Int.toNat_natCast, Int.cast_ofNat_Int, Int.natCast_zero, Int.natCast_one, reduceCtorEq, reduceIte, Nat.lt_irrefl, and_self, not_false_eq_true, not_true_eq_false, LabH, nO, nM, nI, nP, Itm.row, Ins.v, Ins.row, prow, nFC, nFL, bFC, bFL, bFX, lineR, opens_ok]
  have fixs : ∀ x y, L.items[k]? = some x → L.fix x = some y → L.fixes (L.items.take (k + 1)) = some (ys ++ [y]) := by
    intro x y hx hf
    rw [List.take_add_one, hx, Option.toList_some, Lab.fixes_append, hy]
    simp only [Lab.fixes, hf]
  have take1 : ∀ x, L.items[k]? = some x → (L.items.take (k + 1)).map lineR = (L.items.take k).map lineR ++ [[.int .i64 x.line]] := by
    intro x hx
    rw [List.take_add_one, hx]; simp [lineR]
  have bad : ∀ x, L.items[k]? = some x → L.fix x = none → L.finish = none := by
    intro x hx hf
    have e : L.items = L.items.take k ++ x :: L.items.drop (k + 1) := by
      have := List.getElem?_eq_some_iff.1 hx
      obtain ⟨h1, h2⟩ := this
      rw [← h2]; simp
    rw [Lab.finish]
    conv => lhs; rw [e]
    rw [Lab.fixes_append, hy]
    simp only [Lab.fixes, hf]
  refine ⟨fun hlt => ⟨by omega, by omega, by omega, fun x hx => ?_⟩, fun hge => ?_⟩
  · have hmem := List.mem_of_getElem? hx
    obtain ⟨l1, l2⟩ := hok.label x hmem
    refine ⟨fun c => ?_, fun c => ?_⟩
    · obtain ⟨p, hp⟩ : ∃ p, L.places[x.label.toNat]? = some p := ⟨L.places[x.label.toNat]'(by omega), by simp⟩
      have hf := opens_find x.label L.places 0
      simp only [Int.natCast_zero, Int.sub_zero] at hf
      have ht : L.fix x = if p = -1 ∨ p ≥ L.items.length then none else some { x.i with b := p } := by
        rw [Lab.fix, if_pos c, Lab.target, getD_some hp]
        simp only
        split <;> rfl
      by_cases h3 : p = -1
      · rw [if_pos ⟨c, by rw [hp, h3]⟩] at hf
        rw [if_pos (.inl h3)] at ht
        simp -implicitDefEqProofs only [go_sem, Nat.reduceEqDiff, Nat.reduceAdd, Nat.reduceSub, Nat.reduceMul, Nat.reduceLeDiff, Nat.reduceLT, Nat.reduceBEq, Int.reduceToNat, Int.reduceLE, Int.reduceLT, Int.reduceEq, Int.reduceNe, Int.reduceAdd, Int.reduceSub, Int.reduceNeg, Int.toNat_natCast, Int.cast_ofNat_Int, Int.natCast_zero, Int.natCast_one, reduceCtorEq, reduceIte, Nat.lt_irrefl, and_self, not_false_eq_true, not_true_eq_false, LabH, nO, nM, nI, nP, Itm.row, Ins.v, Ins.row, prow, nFC, nFL, bFC, bFL, bFX, lineR, hf]
        subst hQ
        refine .to (h2 := LabH so sm si sp L) (by rw [finH, bad x hx ht]; exact ⟨rfl, rfl⟩) (.sub (by simp -implicitDefEqProofs only [go_sem, Nat.reduceEqDiff, Nat.reduceAdd, Nat.reduceSub, Nat.reduceMul, Nat.reduceLeDiff, Nat.reduceLT, Nat.reduceBEq, Int.reduceToNat, Int.reduceLE, Int.reduceLT, Int.reduceEq, Int.reduceNe, Int.reduceAdd, Int.reduceSub, Int.reduceNeg, Int.toNat_natCast, Int.cast_ofNat_Int, Int.natCast_zero, Int.natCast_one, reduceCtorEq, reduceIte, Nat.lt_irrefl, and_self, not_false_eq_true, not_true_eq_false, LabH, nO, nM, nI, nP, Itm.row, Ins.v, Ins.row, prow, nFC, nFL, bFC, bFL, bFX, lineR]))
      · rw [if_neg (by rw [hp]; simp [h3])] at hf
        simp -implicitDefEqProofs only [go_sem, Nat.reduceEqDiff, Nat.reduceAdd, Nat.reduceSub, Nat.reduceMul, Nat.reduceLeDiff, Nat.reduceLT, Nat.reduceBEq, Int.reduceToNat, Int.reduceLE, Int.reduceLT, Int.reduceEq, Int.reduceNe, Int.reduceAdd, Int.reduceSub, Int.reduceNeg, Int.toNat_natCast, Int.cast_ofNat_Int, Int.natCast_zero, Int.natCast_one, reduceCtorEq, reduceIte, Nat.lt_irrefl, and_self, not_false_eq_true, not_true_eq_false, LabH, nO, nM, nI, nP, Itm.row, Ins.v, Ins.row, prow, nFC, nFL, bFC, bFL, bFX, lineR, hf]
        refine ⟨by omega, by omega, by omega, fun q hq => ?_⟩
        rw [hp] at hq
        injection hq with hq
        subst hq
        rw [if_neg h3]
        refine ⟨fun h4 => ?_, fun h4 => ⟨by omega, by omega, by omega, fun q hq => ?_⟩⟩
        · rw [if_pos (.inr h4)] at ht
          subst hQ
          refine .to (h2 := LabH so sm si sp L) (by rw [finH, bad x hx ht]; exact ⟨rfl, rfl⟩) (.sub (by simp -implicitDefEqProofs only [go_sem, Nat.reduceEqDiff, Nat.reduceAdd, Nat.reduceSub, Nat.reduceMul, Nat.reduceLeDiff, Nat.reduceLT, Nat.reduceBEq, Int.reduceToNat, Int.reduceLE, Int.reduceLT, Int.reduceEq, Int.reduceNe, Int.reduceAdd, Int.reduceSub, Int.reduceNeg, Int.toNat_natCast, Int.cast_ofNat_Int, Int.natCast_zero, Int.natCast_one, reduceCtorEq, reduceIte, Nat.lt_irrefl, and_self, not_false_eq_true, not_true_eq_false, LabH, nO, nM, nI, nP, Itm.row, Ins.v, Ins.row, prow, nFC, nFL, bFC, bFL, bFX, lineR]))
        · rw [hp] at hq
          injection hq with hq
          subst hq
          rw [if_neg h3]
          rw [if_neg (by omega)] at ht
          refine CallS.at [2, 3] [0, 1, 4, 5, 6, 7, 8] (addI_c n s1 k _ (ys.map Ins.row) { x.i with b := p } (by simpa using hl) (by omega)) rfl rfl ?_
          rintro r h' n' hn ⟨s1', rfl, rfl⟩
          simp -implicitDefEqProofs only [go_sem, Nat.reduceEqDiff, Nat.reduceAdd, Nat.reduceSub, Nat.reduceMul, Nat.reduceLeDiff, Nat.reduceLT, Nat.reduceBEq, Int.reduceToNat, Int.reduceLE, Int.reduceLT, Int.reduceEq, Int.reduceNe, Int.reduceAdd, Int.reduceSub, Int.reduceNeg, Int.toNat_natCast, Int.cast_ofNat_Int, Int.natCast_zero, Int.natCast_one, reduceCtorEq, reduceIte, Nat.lt_irrefl, and_self, not_false_eq_true, not_true_eq_false, LabH, nO, nM, nI, nP, Itm.row, Ins.v, Ins.row, prow, nFC, nFL, bFC, bFL, bFX, lineR]
          refine CallS.at [3, 4] [0, 1, 5, 6, 7, 8] (addL_c (n + 1) s2 k _ ((L.items.take k).map lineR) x.line (by simp; omega) (by omega)) rfl rfl ?_
          rintro r h' n' hn ⟨s2', rfl, rfl⟩
          simp -implicitDefEqProofs only [go_sem, Nat.reduceEqDiff, Nat.reduceAdd, Nat.reduceSub, Nat.reduceMul, Nat.reduceLeDiff, Nat.reduceLT, Nat.reduceBEq, Int.reduceToNat, Int.reduceLE, Int.reduceLT, Int.reduceEq, Int.reduceNe, Int.reduceAdd, Int.reduceSub, Int.reduceNeg, Int.toNat_natCast, Int.cast_ofNat_Int, Int.natCast_zero, Int.natCast_one, reduceCtorEq, reduceIte, Nat.lt_irrefl, and_self, not_false_eq_true, not_true_eq_false, LabH, nO, nM, nI, nP, Itm.row, Ins.v, Ins.row, prow, nFC, nFL, bFC, bFL, bFX, lineR]
          refine ⟨by omega, ?_⟩
          rw [← take1 x hx]
          refine ih _ (k + 1, ys ++ [{ x.i with b := p }], s1', s2', n') ⟨by simp only; omega, fixs x { x.i with b := p } hx ht, by simp [hl]⟩ (by simp only; omega) (Weak.wk ?_)
          have hz : ((k + 1 : Nat) : Int) = (k : Int) + 1 := by omega
          have hm : (ys ++ [{ x.i with b := p }]).map Ins.row = ys.map Ins.row ++ [{ x.i with b := p }.row] := by simp
          simp only [hz, hm]
          simp -implicitDefEqProofs only [go_sem, Nat.reduceEqDiff, Nat.reduceAdd, Nat.reduceSub, Nat.reduceMul, Nat.reduceLeDiff, Nat.reduceLT, Nat.reduceBEq, Int.reduceToNat, Int.reduceLE, Int.reduceLT, Int.reduceEq, Int.reduceNe, Int.reduceAdd, Int.reduceSub, Int.reduceNeg, Int.toNat_natCast, Int.cast_ofNat_Int, Int.natCast_zero, Int.natCast_one, reduceCtorEq, reduceIte, Nat.lt_irrefl, and_self, not_false_eq_true, not_true_eq_false, LabH, nO, nM, nI, nP, Itm.row, Ins.v, Ins.row, prow, nFC, nFL, bFC, bFL, bFX, lineR]
    · have ht : L.fix x = some x.i := by rw [Lab.fix, if_neg c]
      refine CallS.at [2, 3] [0, 1, 4, 5, 6, 7, 8] (addI_c n s1 k _ (ys.map Ins.row) x.i (by simpa using hl) (by omega)) rfl rfl ?_
      rintro r h' n' hn ⟨s1', rfl, rfl⟩
      simp -implicitDefEqProofs only [go_sem, Nat.reduceEqDiff, Nat.reduceAdd, Nat.reduceSub, Nat.reduceMul, Nat.reduceLeDiff, Nat.reduceLT, Nat.reduceBEq, Int.reduceToNat, Int.reduceLE, Int.reduceLT, Int.reduceEq, Int.reduceNe, Int.reduceAdd, Int.reduceSub, Int.reduceNeg, Int.toNat_natCast, Int.cast_ofNat_Int, Int.natCast_zero, Int.natCast_one, reduceCtorEq, reduceIte, Nat.lt_irrefl, and_self, not_false_eq_true, not_true_eq_false, LabH, nO, nM, nI, nP, Itm.row, Ins.v, Ins.row, prow, nFC, nFL, bFC, bFL, bFX, lineR]
      refine CallS.at [3, 4] [0, 1, 5, 6, 7, 8] (addL_c (n + 1) s2 k _ ((L.items.take k).map lineR) x.line (by simp; omega) (by omega)) rfl rfl ?_
      rintro r h' n' hn ⟨s2', rfl, rfl⟩
      simp -implicitDefEqProofs only [go_sem, Nat.reduceEqDiff, Nat.reduceAdd, Nat.reduceSub, Nat.reduceMul, Nat.reduceLeDiff, Nat.reduceLT, Nat.reduceBEq, Int.reduceToNat, Int.reduceLE, Int.reduceLT, Int.reduceEq, Int.reduceNe, Int.reduceAdd, Int.reduceSub, Int.reduceNeg, Int.toNat_natCast, Int.cast_ofNat_Int, Int.natCast_zero, Int.natCast_one, reduceCtorEq, reduceIte, Nat.lt_irrefl, and_self, not_false_eq_true, not_true_eq_false, LabH, nO, nM, nI, nP, Itm.row, Ins.v, Ins.row, prow, nFC, nFL, bFC, bFL, bFX, lineR]
      refine ⟨by omega, ?_⟩
      rw [← take1 x hx]
      refine ih _ (k + 1, ys ++ [x.i], s1', s2', n') ⟨by simp only; omega, fixs x x.i hx ht, by simp [hl]⟩ (by simp only; omega) (Weak.wk ?_)
      have hz : ((k + 1 : Nat) : Int) = (k : Int) + 1 := by omega
      have hm : (ys ++ [x.i]).map Ins.row = ys.map Ins.row ++ [x.i.row] := by simp
      simp only [hz, hm]
      simp -implicitDefEqProofs only [go_sem, Nat.reduceEqDiff, Nat.reduceAdd, Nat.reduceSub, Nat.reduceMul, Nat.reduceLeDiff, Nat.reduceLT, Nat.reduceBEq, Int.reduceToNat, Int.reduceLE, Int.reduceLT, Int.reduceEq, Int.reduceNe, Int.reduceAdd, Int.reduceSub, Int.reduceNeg, Int.toNat_natCast, Int.cast_ofNat_Int, Int.natCast_zero, Int.natCast_one, reduceCtorEq, reduceIte, Nat.lt_irrefl, and_self, not_false_eq_true, not_true_eq_false, LabH, nO, nM, nI, nP, Itm.row, Ins.v, Ins.row, prow, nFC, nFL, bFC, bFL, bFX, lineR]
  · have : k = L.items.length := by omega
    subst this
    rw [List.take_length] at hy ⊢
    subst hQ
    refine .to (h2 := (nFC, s1, .rows 5 (ys.map Ins.row)) :: (nFL, s2, .rows 1 (L.items.map lineR)) :: LabH so sm si sp L) (by
      have : L.finish = some ys := hy
      rw [finH, this]; exact ⟨s1, s2, rfl, rfl⟩) (.sub (by simp -implicitDefEqProofs only [go_sem, Nat.reduceEqDiff, Nat.reduceAdd, Nat.reduceSub, Nat.reduceMul, Nat.reduceLeDiff, Nat.reduceLT, Nat.reduceBEq, Int.reduceToNat, Int.reduceLE, Int.reduceLT, Int.reduceEq, Int.reduceNe, Int.reduceAdd, Int.reduceSub, Int.reduceNeg, Int.toNat_natCast, Int.cast_ofNat_Int, Int.natCast_zero, Int.natCast_one, reduceCtorEq, reduceIte, Nat.lt_irrefl, and_self, not_false_eq_true, not_true_eq_false, LabH, nO, nM, nI, nP, Itm.row, Ins.v, Ins.row, prow, nFC, nFL, bFC, bFL, bFX, lineR]))

/-- The finished code as data. -/
theorem finishD_c (L : Lab) (so sm si sp n : Nat) (hok : L.OK) :
    CallS Tryd.prog 17 [.ptr nO so 0 0] (LabH so sm si sp L) n (fun r h' _ => r = finV L ∧ h' = LabH so sm si sp L) := by
  refine (finish_c L so sm si sp n hok).wk ?_
  intro r h' n' hf
  unfold finH at hf
  cases hfin : L.finish with
  | none =>
    rw [hfin] at hf
    obtain ⟨rfl, rfl⟩ := hf
    refine ⟨finV L, _, n', ?_, rfl, rfl⟩
    rw [finV, hfin]
    exact .turn id ⟨.tup ⟨.nilI, .nilI, .refl _, trivial⟩, trivial⟩ (.at 0 rfl rfl (.refl _) (.at 1 rfl rfl (.refl _) (.at 2 rfl rfl (.refl _) (.at 3 rfl rfl (.refl _) trivial))))
  | some ys =>
    rw [hfin] at hf
    obtain ⟨s1, s2, rfl, rfl⟩ := hf
    have hl : ys.length = L.items.length := by
      have : ∀ (l : List Itm) ys, L.fixes l = some ys → ys.length = l.length := by
        intro l
        induction l with
        | nil => intro ys h; simp [Lab.fixes] at h; subst h; rfl
        | cons x r ih =>
          intro ys h
          simp only [Lab.fixes] at h
          split at h
          · rename_i y zs _ h2
            injection h with h; subst h
            simp [ih _ h2]
          · cases h
      exact this _ _ hfin
    refine ⟨finV L, LabH so sm si sp L, n', ?_, rfl, rfl⟩
    rw [finV, hfin]
    refine .trans (.freeze (b := nFC) (st := s1) (sz := 5) (rs := ys.map Ins.row) (sl' := [(0, .tup [.isl (ys.map Ins.row), .sl nFL s2 0 L.items.length, .int .i64 0])]) (h' := (nFL, s2, .rows 1 (L.items.map lineR)) :: LabH so sm si sp L) List.mem_cons_self ?_ ?_)
      (.freeze (b := nFL) (st := s2) (sz := 1) (rs := L.items.map lineR) List.mem_cons_self ?_ ?_)
    · exact ⟨.tup ⟨.all (by simpa using hl.symm), .of (.refl _), .of (.refl _), trivial⟩, trivial⟩
    · exact .at 1 rfl (by decide) (.of (.refl _)) (.at 2 rfl (by decide) (.of (.refl _)) (.at 3 rfl (by decide) (.of (.refl _)) (.at 4 rfl (by decide) (.of (.refl _)) (.at 5 rfl (by decide) (.of (.refl _)) trivial))))
    · exact ⟨.tup ⟨.of (.refl _), .all (by simp), .of (.refl _), trivial⟩, trivial⟩
    · exact .at 1 rfl (by decide) (.of (.refl _)) (.at 2 rfl (by decide) (.of (.refl _)) (.at 3 rfl (by decide) (.of (.refl _)) (.at 4 rfl (by decide) (.of (.refl _)) trivial)))
end Go.Proofs.YtlckjdhammcpaaaDoor
