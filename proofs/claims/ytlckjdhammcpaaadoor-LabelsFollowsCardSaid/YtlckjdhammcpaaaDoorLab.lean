/-
  What the functions of 'labels' do. No condition.
-/
import Derived.Test.YtlckjdhammcpaaaDoorOpc5
import Derived.Test.YtlckjdhammcpaaaDoorLabM
import Derived.Test.YtlckjdhammcpaaaDoorFrm
set_option linter.unusedVariables false
set_option linter.unusedSimpArgs false
set_option maxRecDepth 100000
set_option maxHeartbeats 0
namespace Go.Proofs.YtlckjdhammcpaaaDoor
open Go.Abs
attribute [local irreducible] CallS Run
-- EV: LabH, nO, nM, nI, nP, Itm.row, Ins.v, Ins.row, prow, Lab.label, Lab.add

abbrev nO : Nat := (11 * 10000 + 3)
abbrev nM : Nat := (11 * 10000 + 1)
abbrev nI : Nat := (11 * 10000 + 5001)
abbrev nP : Nat := (11 * 10000 + 5002)

/-- The labels without a place. -/
def opens : Nat → List Int → List (V × V)
  | _, [] => []
  | k, p :: r => if p = -1 then (.int .i64 k, .bool true) :: opens (k + 1) r else opens (k + 1) r
def prow (p : Int) : List V := [.int .i64 (if p = -1 then 0 else p)]

def LabH (so sm si sp : Nat) (L : Lab) : Heap :=
  [(nO, so, .rows 3 [[.sl nI si 0 L.items.length, .sl nP sp 0 L.places.length, .mp nM sm]]), (nM, sm, .map (opens 0 L.places)), (nI, si, .rows 7 (L.items.map Itm.row)), (nP, sp, .rows 1 (L.places.map prow))]

theorem opens_find (z : Int) : ∀ (l : List Int) (k : Nat), mfind (.int .i64 z) (opens k l) = if (k : Int) ≤ z ∧ l[(z - k).toNat]? = some (-1) then some (.bool true) else none
  | [], k => by simp [opens, mfind]
  | p :: r, k => by
    have ih := opens_find z r (k + 1)
    simp only [opens]
    by_cases hz : z = k
    · subst hz
      by_cases hp : p = -1
      · simp [hp, mfind, keyEq]
      · rw [if_neg hp, ih, if_neg (by omega), if_neg (by simp [hp])]
    · have e : (z - (k : Int)).toNat = 0 ∨ (z - (k : Int)).toNat = (z - ((k + 1 : Nat) : Int)).toNat + 1 := by omega
      have key : ((k : Int) ≤ z ∧ (p :: r)[(z - k).toNat]? = some (-1)) ↔ (((k + 1 : Nat) : Int) ≤ z ∧ r[(z - ((k + 1 : Nat) : Int)).toNat]? = some (-1)) := by
        constructor
        · rintro ⟨h1, h2⟩
          have : (z - (k : Int)).toNat = (z - ((k + 1 : Nat) : Int)).toNat + 1 := by omega
          rw [this, List.getElem?_cons_succ] at h2
          exact ⟨by omega, h2⟩
        · rintro ⟨h1, h2⟩
          have : (z - (k : Int)).toNat = (z - ((k + 1 : Nat) : Int)).toNat + 1 := by omega
          rw [this, List.getElem?_cons_succ]
          exact ⟨by omega, h2⟩
      by_cases hp : p = -1
      · rw [if_pos hp, mfind, keyEq, ih]
        simp only [decide_true, cond_true, Option.getD_some, decide_eq_true_eq, hz, decide_false, cond_false]
        simp only [key]
      · rw [if_neg hp, ih]; simp only [key]
theorem opens_ok (z : Int) : ∀ (l : List Int) (k : Nat), keyOK (.int .i64 z) (opens k l) = True
  | [], k => by simp [opens, keyOK]
  | p :: r, k => by
    simp only [opens]
    split
    · simp [keyOK, keyEq, opens_ok z r]
    · exact opens_ok z r _
theorem opens_set : ∀ (l : List Int) (k : Nat), mset (.int .i64 ((k + l.length : Nat) : Int)) (.bool true) (opens k l) = opens k (l ++ [-1])
  | [], k => by simp [opens, mset]
  | p :: r, k => by
    have ih := opens_set r (k + 1)
    rw [show k + 1 + r.length = k + (p :: r).length by simp; omega] at ih
    simp only [List.cons_append, opens]
    split
    · have hne : ¬ ((k + (p :: r).length : Nat) : Int) = (k : Int) := by simp; omega
      simp only [mset, keyEq, decide_true, cond_true, Option.getD_some, hne, decide_false, cond_false]
      rw [ih]
    · exact ih
theorem opens_rem (v : Int) (hv : v ≠ -1) : ∀ (l : List Int) (k j : Nat), j < l.length → mrem (.int .i64 ((k + j : Nat) : Int)) (opens k l) = opens k (l.set j v)
  | [], k, j, h => by simp at h
  | p :: r, k, 0, h => by
    simp only [opens, List.set_cons_zero, Nat.add_zero, if_neg hv]
    have none_ : ∀ (l : List Int) (m : Nat), k < m → mrem (.int .i64 (k : Int)) (opens m l) = opens m l := by
      intro l
      induction l with
      | nil => intro m _; simp [opens, mrem]
      | cons q s ih =>
        intro m hm
        simp only [opens]
        split
        · have hne : ¬ (k : Int) = (m : Int) := by omega
          simp only [mrem, keyEq, decide_true, cond_true, Option.getD_some, hne, decide_false, cond_false]
          rw [ih (m + 1) (by omega)]
        · exact ih (m + 1) (by omega)
    split
    · simp [mrem, keyEq]
    · exact none_ r (k + 1) (by omega)
  | p :: r, k, j + 1, h => by
    have ih := opens_rem v hv r (k + 1) j (by simpa using h)
    rw [show k + 1 + j = k + (j + 1) by omega] at ih
    simp only [List.set_cons_succ, opens]
    split
    · have hne : ¬ ((k + (j + 1) : Nat) : Int) = (k : Int) := by omega
      simp only [mrem, keyEq, decide_true, cond_true, Option.getD_some, hne, decide_false, cond_false]
      rw [ih]
    · exact ih

theorem new_c (n : Nat) : CallS Tryd.prog 11 [] [] n (fun r h _ => ∃ so sm si sp, r = .ptr nO so 0 0 ∧ h = LabH so sm si sp Lab.new) := by
  refine CallS.wk (k1 := fun r h _ => r = .ptr nO (n + 1) 0 0 ∧ h = [(nO, n + 1, .rows 3 [[.nils, .nils, .mp nM n]]), (nM, n, .map [])]) (CallS.enter labels_New_ok (Nat.le_of_ble_eq_true rfl) ?_) ?_
  · refine Run.go 100 ?_
    simp -implicitDefEqProofs only [go_sem, Nat.reduceEqDiff, Nat.reduceAdd, Nat.reduceSub, Nat.reduceMul, Nat.reduceLeDiff, Nat.reduceLT, Nat.reduceBEq, Int.reduceToNat, Int.reduceLE, Int.reduceLT, Int.reduceEq, Int.reduceNe, Int.reduceAdd, Int.reduceSub, Int.reduceNeg, Int.toNat_natCast, Int.cast_ofNat_Int, Int.natCast_zero, Int.natCast_one, reduceCtorEq, reduceIte, Nat.lt_irrefl, and_self, not_false_eq_true, not_true_eq_false, LabH, nO, nM, nI, nP, Itm.row, Ins.v, Ins.row, prow, Lab.label, Lab.add, initSl]
  · rintro r h' n' ⟨rfl, rfl⟩
    exact ⟨_, LabH (n + 1) n n' (n' + 1) Lab.new, _, .trans (.fresh nI 7 _ _ _) (.trans (.fresh nP 1 _ _ _) (.turn id ⟨.refl _, trivial⟩
      (.at 2 rfl rfl (.row ⟨.nils, .nils, .refl _, trivial⟩) (.at 3 rfl rfl (.refl _) (.at 1 rfl rfl (.refl _) (.at 0 rfl rfl (.refl _) trivial)))))), _, _, _, _, rfl, rfl⟩

theorem addX_c (L : Lab) (so sm si sp n : Nat) (x : Itm) (hB : L.items.length ≤ 1000) :
    CallS Tryd.prog 37 [.ptr nO so 0 0, .agg x.row] (LabH so sm si sp L) n
      (fun r h' _ => ∃ si', r = .int .i64 (L.items.length : Nat) ∧ h' = LabH so sm si' sp { L with items := L.items ++ [x] }) := by
  refine CallS.enterK labels_add_labels_item_ok (Nat.le_of_ble_eq_true rfl) fun Q hQ => Run.go 100 ?_
  simp -implicitDefEqProofs only [go_sem, Nat.reduceEqDiff, Nat.reduceAdd, Nat.reduceSub, Nat.reduceMul, Nat.reduceLeDiff, Nat.reduceLT, Nat.reduceBEq, Int.reduceToNat, Int.reduceLE, Int.reduceLT, Int.reduceEq, Int.reduceNe, Int.reduceAdd, Int.reduceSub, Int.reduceNeg, Int.toNat_natCast, Int.cast_ofNat_Int, Int.natCast_zero, Int.natCast_one, reduceCtorEq, reduceIte, Nat.lt_irrefl, and_self, not_false_eq_true, not_true_eq_false, LabH, nO, nM, nI, nP, Itm.row, Ins.v, Ins.row, prow, Lab.label, Lab.add, initSl]
  subst hQ
  exact ⟨by omega, by omega, .to ⟨n + 1, rfl, rfl⟩ (.turn id ⟨(by first | exact SameV.refl _ | (refine SameV.of_eq ?_; simp [sget]; done) | (refine SameV.of_eq ?_; simp [sget, LabH, nO, nM, nI, nP, Itm.row, Ins.v, Ins.row, prow, Lab.label, Lab.add]; done)), trivial⟩ (.at 0 rfl rfl (by first | exact SameB.refl _ | (refine SameB.of_eq ?_; simp; done) | (refine SameB.of_eq ?_; simp [LabH, nO, nM, nI, nP, Itm.row, Ins.v, Ins.row, prow, Lab.label, Lab.add]; done)) (.at 3 rfl rfl (by first | exact SameB.refl _ | (refine SameB.of_eq ?_; simp; done) | (refine SameB.of_eq ?_; simp [LabH, nO, nM, nI, nP, Itm.row, Ins.v, Ins.row, prow, Lab.label, Lab.add]; done)) (.at 1 rfl rfl (by first | exact SameB.refl _ | (refine SameB.of_eq ?_; simp; done) | (refine SameB.of_eq ?_; simp [LabH, nO, nM, nI, nP, Itm.row, Ins.v, Ins.row, prow, Lab.label, Lab.add]; done)) (.at 4 rfl rfl (by first | exact SameB.refl _ | (refine SameB.of_eq ?_; simp; done) | (refine SameB.of_eq ?_; simp [LabH, nO, nM, nI, nP, Itm.row, Ins.v, Ins.row, prow, Lab.label, Lab.add]; done)) trivial)))))⟩

/-- A new label, not yet open. -/
theorem addP_c (L : Lab) (so sm si sp n : Nat) (hB : L.places.length ≤ 1000) :
    CallS Tryd.prog 31 [.ptr nO so 0 1, .int .i64 0] (LabH so sm si sp L) n
      (fun r h' _ => ∃ sp', r = .int .i64 (L.places.length : Nat) ∧ h' = [(nO, so, .rows 3 [[.sl nI si 0 L.items.length, .sl nP sp' 0 (L.places.length + 1), .mp nM sm]]), (nM, sm, .map (opens 0 L.places)), (nI, si, .rows 7 (L.items.map Itm.row)), (nP, sp', .rows 1 ((L.places ++ [-1]).map prow))]) := by
  refine CallS.enterK labels_add_int_ok (Nat.le_of_ble_eq_true rfl) fun Q hQ => Run.go 100 ?_
  simp -implicitDefEqProofs only [go_sem, Nat.reduceEqDiff, Nat.reduceAdd, Nat.reduceSub, Nat.reduceMul, Nat.reduceLeDiff, Nat.reduceLT, Nat.reduceBEq, Int.reduceToNat, Int.reduceLE, Int.reduceLT, Int.reduceEq, Int.reduceNe, Int.reduceAdd, Int.reduceSub, Int.reduceNeg, Int.toNat_natCast, Int.cast_ofNat_Int, Int.natCast_zero, Int.natCast_one, reduceCtorEq, reduceIte, Nat.lt_irrefl, and_self, not_false_eq_true, not_true_eq_false, LabH, nO, nM, nI, nP, Itm.row, Ins.v, Ins.row, prow, Lab.label, Lab.add, initSl]
  subst hQ
  exact ⟨by omega, by omega, .to ⟨n, rfl, rfl⟩ (.turn id ⟨(by first | exact SameV.refl _ | (refine SameV.of_eq ?_; simp [sget]; done) | (refine SameV.of_eq ?_; simp [sget, LabH, nO, nM, nI, nP, Itm.row, Ins.v, Ins.row, prow, Lab.label, Lab.add]; done)), trivial⟩ (.at 0 rfl rfl (by first | exact SameB.refl _ | (refine SameB.of_eq ?_; simp; done) | (refine SameB.of_eq ?_; simp [LabH, nO, nM, nI, nP, Itm.row, Ins.v, Ins.row, prow, Lab.label, Lab.add]; done)) (.at 2 rfl rfl (by first | exact SameB.refl _ | (refine SameB.of_eq ?_; simp; done) | (refine SameB.of_eq ?_; simp [LabH, nO, nM, nI, nP, Itm.row, Ins.v, Ins.row, prow, Lab.label, Lab.add]; done)) (.at 3 rfl rfl (by first | exact SameB.refl _ | (refine SameB.of_eq ?_; simp; done) | (refine SameB.of_eq ?_; simp [LabH, nO, nM, nI, nP, Itm.row, Ins.v, Ins.row, prow, Lab.label, Lab.add]; done)) (.at 1 rfl rfl (by first | exact SameB.refl _ | (refine SameB.of_eq ?_; simp; done) | (refine SameB.of_eq ?_; simp [LabH, nO, nM, nI, nP, Itm.row, Ins.v, Ins.row, prow, Lab.label, Lab.add]; done)) trivial)))))⟩

theorem room_c (L : Lab) (so sm si sp n : Nat) (hB : L.items.length ≤ 1000) :
    CallS Tryd.prog 36 [.ptr nO so 0 0] (LabH so sm si sp L) n (fun r h' _ => r = .int .i64 0 ∧ h' = LabH so sm si sp L) := by
  refine CallS.enterK labels_Code_room_ok (Nat.le_of_ble_eq_true rfl) fun Q hQ => Run.go 100 ?_
  simp -implicitDefEqProofs only [go_sem, Nat.reduceEqDiff, Nat.reduceAdd, Nat.reduceSub, Nat.reduceMul, Nat.reduceLeDiff, Nat.reduceLT, Nat.reduceBEq, Int.reduceToNat, Int.reduceLE, Int.reduceLT, Int.reduceEq, Int.reduceNe, Int.reduceAdd, Int.reduceSub, Int.reduceNeg, Int.toNat_natCast, Int.cast_ofNat_Int, Int.natCast_zero, Int.natCast_one, reduceCtorEq, reduceIte, Nat.lt_irrefl, and_self, not_false_eq_true, not_true_eq_false, LabH, nO, nM, nI, nP, Itm.row, Ins.v, Ins.row, prow, Lab.label, Lab.add, initSl]
  subst hQ
  exact ⟨fun h => by omega, fun _ => .is ⟨rfl, rfl⟩⟩

theorem len_c (L : Lab) (so sm si sp n : Nat) :
    CallS Tryd.prog 15 [.ptr nO so 0 0] (LabH so sm si sp L) n (fun r h' _ => r = .int .i64 (L.items.length : Nat) ∧ h' = LabH so sm si sp L) := by
  refine CallS.enterK labels_Code_Len_ok (Nat.le_of_ble_eq_true rfl) fun Q hQ => Run.go 100 ?_
  simp -implicitDefEqProofs only [go_sem, Nat.reduceEqDiff, Nat.reduceAdd, Nat.reduceSub, Nat.reduceMul, Nat.reduceLeDiff, Nat.reduceLT, Nat.reduceBEq, Int.reduceToNat, Int.reduceLE, Int.reduceLT, Int.reduceEq, Int.reduceNe, Int.reduceAdd, Int.reduceSub, Int.reduceNeg, Int.toNat_natCast, Int.cast_ofNat_Int, Int.natCast_zero, Int.natCast_one, reduceCtorEq, reduceIte, Nat.lt_irrefl, and_self, not_false_eq_true, not_true_eq_false, LabH, nO, nM, nI, nP, Itm.row, Ins.v, Ins.row, prow, Lab.label, Lab.add, initSl]
  subst hQ
  exact .is ⟨rfl, rfl⟩


theorem emit_c (L : Lab) (so sm si sp n : Nat) (i : Ins) (line : Int) (hB : L.items.length ≤ 1000) :
    CallS Tryd.prog 21 [.ptr nO so 0 0, i.v, .int .i64 line] (LabH so sm si sp L) n
      (fun r h' _ => ∃ si', r = .tup [.int .i64 (L.emit i line).1, .int .i64 (L.emit i line).2.1] ∧ h' = LabH so sm si' sp (L.emit i line).2.2) := by
  refine CallS.enterK labels_Code_Emit_ok (Nat.le_of_ble_eq_true rfl) fun Q hQ => Run.go 100 ?_
  simp -implicitDefEqProofs only [go_sem, Nat.reduceEqDiff, Nat.reduceAdd, Nat.reduceSub, Nat.reduceMul, Nat.reduceLeDiff, Nat.reduceLT, Nat.reduceBEq, Int.reduceToNat, Int.reduceLE, Int.reduceLT, Int.reduceEq, Int.reduceNe, Int.reduceAdd, Int.reduceSub, Int.reduceNeg, Int.toNat_natCast, Int.cast_ofNat_Int, Int.natCast_zero, Int.natCast_one, reduceCtorEq, reduceIte, Nat.lt_irrefl, and_self, not_false_eq_true, not_true_eq_false, LabH, nO, nM, nI, nP, Itm.row, Ins.v, Ins.row, prow, Lab.label, Lab.add, initSl]
  refine CallS.pureF (check_pure i) (by simp -implicitDefEqProofs only [go_sem, Nat.reduceEqDiff, Nat.reduceAdd, Nat.reduceSub, Nat.reduceMul, Nat.reduceLeDiff, Nat.reduceLT, Nat.reduceBEq, Int.reduceToNat, Int.reduceLE, Int.reduceLT, Int.reduceEq, Int.reduceNe, Int.reduceAdd, Int.reduceSub, Int.reduceNeg, Int.toNat_natCast, Int.cast_ofNat_Int, Int.natCast_zero, Int.natCast_one, reduceCtorEq, reduceIte, Nat.lt_irrefl, and_self, not_false_eq_true, not_true_eq_false, LabH, nO, nM, nI, nP, Itm.row, Ins.v, Ins.row, prow, Lab.label, Lab.add]) ?_
  simp -implicitDefEqProofs only [go_sem, Nat.reduceEqDiff, Nat.reduceAdd, Nat.reduceSub, Nat.reduceMul, Nat.reduceLeDiff, Nat.reduceLT, Nat.reduceBEq, Int.reduceToNat, Int.reduceLE, Int.reduceLT, Int.reduceEq, Int.reduceNe, Int.reduceAdd, Int.reduceSub, Int.reduceNeg, Int.toNat_natCast, Int.cast_ofNat_Int, Int.natCast_zero, Int.natCast_one, reduceCtorEq, reduceIte, Nat.lt_irrefl, and_self, not_false_eq_true, not_true_eq_false, LabH, nO, nM, nI, nP, Itm.row, Ins.v, Ins.row, prow, Lab.label, Lab.add]
  refine ⟨fun c => ?_, fun c => ⟨fun c2 => ?_, fun c2 => ?_⟩⟩
  · subst hQ; rw [Lab.emit, if_pos c]; exact .to ⟨si, rfl, rfl⟩ (.turn id ⟨(by first | exact SameV.refl _ | (refine SameV.of_eq ?_; simp [sget]; done) | (refine SameV.of_eq ?_; simp [sget, LabH, nO, nM, nI, nP, Itm.row, Ins.v, Ins.row, prow, Lab.label, Lab.add]; done)), trivial⟩ (.at 1 rfl rfl (by first | exact SameB.refl _ | (refine SameB.of_eq ?_; simp; done) | (refine SameB.of_eq ?_; simp [LabH, nO, nM, nI, nP, Itm.row, Ins.v, Ins.row, prow, Lab.label, Lab.add]; done)) (.at 2 rfl rfl (by first | exact SameB.refl _ | (refine SameB.of_eq ?_; simp; done) | (refine SameB.of_eq ?_; simp [LabH, nO, nM, nI, nP, Itm.row, Ins.v, Ins.row, prow, Lab.label, Lab.add]; done)) (.at 3 rfl rfl (by first | exact SameB.refl _ | (refine SameB.of_eq ?_; simp; done) | (refine SameB.of_eq ?_; simp [LabH, nO, nM, nI, nP, Itm.row, Ins.v, Ins.row, prow, Lab.label, Lab.add]; done)) (.at 4 rfl rfl (by first | exact SameB.refl _ | (refine SameB.of_eq ?_; simp; done) | (refine SameB.of_eq ?_; simp [LabH, nO, nM, nI, nP, Itm.row, Ins.v, Ins.row, prow, Lab.label, Lab.add]; done)) trivial)))))
  · subst hQ; rw [Lab.emit, if_neg (by simpa using c), if_pos c2]; exact .to ⟨si, rfl, rfl⟩ (.turn id ⟨(by first | exact SameV.refl _ | (refine SameV.of_eq ?_; simp [sget]; done) | (refine SameV.of_eq ?_; simp [sget, LabH, nO, nM, nI, nP, Itm.row, Ins.v, Ins.row, prow, Lab.label, Lab.add]; done)), trivial⟩ (.at 1 rfl rfl (by first | exact SameB.refl _ | (refine SameB.of_eq ?_; simp; done) | (refine SameB.of_eq ?_; simp [LabH, nO, nM, nI, nP, Itm.row, Ins.v, Ins.row, prow, Lab.label, Lab.add]; done)) (.at 2 rfl rfl (by first | exact SameB.refl _ | (refine SameB.of_eq ?_; simp; done) | (refine SameB.of_eq ?_; simp [LabH, nO, nM, nI, nP, Itm.row, Ins.v, Ins.row, prow, Lab.label, Lab.add]; done)) (.at 3 rfl rfl (by first | exact SameB.refl _ | (refine SameB.of_eq ?_; simp; done) | (refine SameB.of_eq ?_; simp [LabH, nO, nM, nI, nP, Itm.row, Ins.v, Ins.row, prow, Lab.label, Lab.add]; done)) (.at 4 rfl rfl (by first | exact SameB.refl _ | (refine SameB.of_eq ?_; simp; done) | (refine SameB.of_eq ?_; simp [LabH, nO, nM, nI, nP, Itm.row, Ins.v, Ins.row, prow, Lab.label, Lab.add]; done)) trivial)))))
  · refine CallS.at [1, 2, 3, 4] [0] (room_c L so sm si sp _ hB) rfl rfl ?_
    rintro r h' n' hn ⟨rfl, rfl⟩
    simp -implicitDefEqProofs only [go_sem, Nat.reduceEqDiff, Nat.reduceAdd, Nat.reduceSub, Nat.reduceMul, Nat.reduceLeDiff, Nat.reduceLT, Nat.reduceBEq, Int.reduceToNat, Int.reduceLE, Int.reduceLT, Int.reduceEq, Int.reduceNe, Int.reduceAdd, Int.reduceSub, Int.reduceNeg, Int.toNat_natCast, Int.cast_ofNat_Int, Int.natCast_zero, Int.natCast_one, reduceCtorEq, reduceIte, Nat.lt_irrefl, and_self, not_false_eq_true, not_true_eq_false, LabH, nO, nM, nI, nP, Itm.row, Ins.v, Ins.row, prow, Lab.label, Lab.add]
    refine CallS.at [0, 1, 2, 3] [4] (addX_c L so sm si sp _ ⟨i, line, -1⟩ hB) rfl rfl ?_
    rintro r h' n' hn ⟨si', rfl, rfl⟩
    simp -implicitDefEqProofs only [go_sem, Nat.reduceEqDiff, Nat.reduceAdd, Nat.reduceSub, Nat.reduceMul, Nat.reduceLeDiff, Nat.reduceLT, Nat.reduceBEq, Int.reduceToNat, Int.reduceLE, Int.reduceLT, Int.reduceEq, Int.reduceNe, Int.reduceAdd, Int.reduceSub, Int.reduceNeg, Int.toNat_natCast, Int.cast_ofNat_Int, Int.natCast_zero, Int.natCast_one, reduceCtorEq, reduceIte, Nat.lt_irrefl, and_self, not_false_eq_true, not_true_eq_false, LabH, nO, nM, nI, nP, Itm.row, Ins.v, Ins.row, prow, Lab.label, Lab.add]
    subst hQ; rw [Lab.emit, if_neg (by simpa using c), if_neg c2, Lab.add]; exact .to ⟨si', rfl, rfl⟩ (.turn id ⟨(by first | exact SameV.refl _ | (refine SameV.of_eq ?_; simp [sget]; done) | (refine SameV.of_eq ?_; simp [sget, LabH, nO, nM, nI, nP, Itm.row, Ins.v, Ins.row, prow, Lab.label, Lab.add]; done)), trivial⟩ (.at 0 rfl rfl (by first | exact SameB.refl _ | (refine SameB.of_eq ?_; simp; done) | (refine SameB.of_eq ?_; simp [LabH, nO, nM, nI, nP, Itm.row, Ins.v, Ins.row, prow, Lab.label, Lab.add]; done)) (.at 1 rfl rfl (by first | exact SameB.refl _ | (refine SameB.of_eq ?_; simp; done) | (refine SameB.of_eq ?_; simp [LabH, nO, nM, nI, nP, Itm.row, Ins.v, Ins.row, prow, Lab.label, Lab.add]; done)) (.at 2 rfl rfl (by first | exact SameB.refl _ | (refine SameB.of_eq ?_; simp; done) | (refine SameB.of_eq ?_; simp [LabH, nO, nM, nI, nP, Itm.row, Ins.v, Ins.row, prow, Lab.label, Lab.add]; done)) (.at 3 rfl rfl (by first | exact SameB.refl _ | (refine SameB.of_eq ?_; simp; done) | (refine SameB.of_eq ?_; simp [LabH, nO, nM, nI, nP, Itm.row, Ins.v, Ins.row, prow, Lab.label, Lab.add]; done)) trivial)))))

theorem jump_c (L : Lab) (so sm si sp n : Nat) (i : Ins) (line label : Int) (hB : L.items.length ≤ 1000) :
    CallS Tryd.prog 25 [.ptr nO so 0 0, i.v, .int .i64 line, .int .i64 label] (LabH so sm si sp L) n
      (fun r h' _ => ∃ si', r = .tup [.int .i64 (L.jump i line label).1, .int .i64 (L.jump i line label).2.1] ∧ h' = LabH so sm si' sp (L.jump i line label).2.2) := by
  refine CallS.enterK labels_Code_Jump_ok (Nat.le_of_ble_eq_true rfl) fun Q hQ => Run.go 100 ?_
  simp -implicitDefEqProofs only [go_sem, Nat.reduceEqDiff, Nat.reduceAdd, Nat.reduceSub, Nat.reduceMul, Nat.reduceLeDiff, Nat.reduceLT, Nat.reduceBEq, Int.reduceToNat, Int.reduceLE, Int.reduceLT, Int.reduceEq, Int.reduceNe, Int.reduceAdd, Int.reduceSub, Int.reduceNeg, Int.toNat_natCast, Int.cast_ofNat_Int, Int.natCast_zero, Int.natCast_one, reduceCtorEq, reduceIte, Nat.lt_irrefl, and_self, not_false_eq_true, not_true_eq_false, LabH, nO, nM, nI, nP, Itm.row, Ins.v, Ins.row, prow, Lab.label, Lab.add, initSl]
  refine CallS.pureF (target_pure i) (by simp -implicitDefEqProofs only [go_sem, Nat.reduceEqDiff, Nat.reduceAdd, Nat.reduceSub, Nat.reduceMul, Nat.reduceLeDiff, Nat.reduceLT, Nat.reduceBEq, Int.reduceToNat, Int.reduceLE, Int.reduceLT, Int.reduceEq, Int.reduceNe, Int.reduceAdd, Int.reduceSub, Int.reduceNeg, Int.toNat_natCast, Int.cast_ofNat_Int, Int.natCast_zero, Int.natCast_one, reduceCtorEq, reduceIte, Nat.lt_irrefl, and_self, not_false_eq_true, not_true_eq_false, LabH, nO, nM, nI, nP, Itm.row, Ins.v, Ins.row, prow, Lab.label, Lab.add]) ?_
  simp -implicitDefEqProofs only [go_sem, Nat.reduceEqDiff, Nat.reduceAdd, Nat.reduceSub, Nat.reduceMul, Nat.reduceLeDiff, Nat.reduceLT, Nat.reduceBEq, Int.reduceToNat, Int.reduceLE, Int.reduceLT, Int.reduceEq, Int.reduceNe, Int.reduceAdd, Int.reduceSub, Int.reduceNeg, Int.toNat_natCast, Int.cast_ofNat_Int, Int.natCast_zero, Int.natCast_one, reduceCtorEq, reduceIte, Nat.lt_irrefl, and_self, not_false_eq_true, not_true_eq_false, LabH, nO, nM, nI, nP, Itm.row, Ins.v, Ins.row, prow, Lab.label, Lab.add]
  refine ⟨fun c0 => ?_, fun c0 => ?_⟩
  · subst hQ; rw [Lab.jump, if_pos (by simpa using c0)]; exact .to ⟨si, rfl, rfl⟩ (.turn id ⟨(by first | exact SameV.refl _ | (refine SameV.of_eq ?_; simp [sget]; done) | (refine SameV.of_eq ?_; simp [sget, LabH, nO, nM, nI, nP, Itm.row, Ins.v, Ins.row, prow, Lab.label, Lab.add]; done)), trivial⟩ (.at 1 rfl rfl (by first | exact SameB.refl _ | (refine SameB.of_eq ?_; simp; done) | (refine SameB.of_eq ?_; simp [LabH, nO, nM, nI, nP, Itm.row, Ins.v, Ins.row, prow, Lab.label, Lab.add]; done)) (.at 2 rfl rfl (by first | exact SameB.refl _ | (refine SameB.of_eq ?_; simp; done) | (refine SameB.of_eq ?_; simp [LabH, nO, nM, nI, nP, Itm.row, Ins.v, Ins.row, prow, Lab.label, Lab.add]; done)) (.at 3 rfl rfl (by first | exact SameB.refl _ | (refine SameB.of_eq ?_; simp; done) | (refine SameB.of_eq ?_; simp [LabH, nO, nM, nI, nP, Itm.row, Ins.v, Ins.row, prow, Lab.label, Lab.add]; done)) (.at 4 rfl rfl (by first | exact SameB.refl _ | (refine SameB.of_eq ?_; simp; done) | (refine SameB.of_eq ?_; simp [LabH, nO, nM, nI, nP, Itm.row, Ins.v, Ins.row, prow, Lab.label, Lab.add]; done)) trivial)))))
  refine CallS.pureF (check_pure { i with b := 0 }) (by simp -implicitDefEqProofs only [go_sem, Nat.reduceEqDiff, Nat.reduceAdd, Nat.reduceSub, Nat.reduceMul, Nat.reduceLeDiff, Nat.reduceLT, Nat.reduceBEq, Int.reduceToNat, Int.reduceLE, Int.reduceLT, Int.reduceEq, Int.reduceNe, Int.reduceAdd, Int.reduceSub, Int.reduceNeg, Int.toNat_natCast, Int.cast_ofNat_Int, Int.natCast_zero, Int.natCast_one, reduceCtorEq, reduceIte, Nat.lt_irrefl, and_self, not_false_eq_true, not_true_eq_false, LabH, nO, nM, nI, nP, Itm.row, Ins.v, Ins.row, prow, Lab.label, Lab.add]) ?_
  simp -implicitDefEqProofs only [go_sem, Nat.reduceEqDiff, Nat.reduceAdd, Nat.reduceSub, Nat.reduceMul, Nat.reduceLeDiff, Nat.reduceLT, Nat.reduceBEq, Int.reduceToNat, Int.reduceLE, Int.reduceLT, Int.reduceEq, Int.reduceNe, Int.reduceAdd, Int.reduceSub, Int.reduceNeg, Int.toNat_natCast, Int.cast_ofNat_Int, Int.natCast_zero, Int.natCast_one, reduceCtorEq, reduceIte, Nat.lt_irrefl, and_self, not_false_eq_true, not_true_eq_false, LabH, nO, nM, nI, nP, Itm.row, Ins.v, Ins.row, prow, Lab.label, Lab.add]
  refine ⟨fun c => ?_, fun c => ⟨fun c2 => ?_, fun c2 => ⟨fun c3 => ⟨fun c4 => ?_, fun c4 => ?_⟩, fun c3 => ?_⟩⟩⟩
  · subst hQ; rw [Lab.jump, if_neg (by simpa using c0), if_pos c]; exact .to ⟨si, rfl, rfl⟩ (.turn id ⟨(by first | exact SameV.refl _ | (refine SameV.of_eq ?_; simp [sget]; done) | (refine SameV.of_eq ?_; simp [sget, LabH, nO, nM, nI, nP, Itm.row, Ins.v, Ins.row, prow, Lab.label, Lab.add]; done)), trivial⟩ (.at 1 rfl rfl (by first | exact SameB.refl _ | (refine SameB.of_eq ?_; simp; done) | (refine SameB.of_eq ?_; simp [LabH, nO, nM, nI, nP, Itm.row, Ins.v, Ins.row, prow, Lab.label, Lab.add]; done)) (.at 2 rfl rfl (by first | exact SameB.refl _ | (refine SameB.of_eq ?_; simp; done) | (refine SameB.of_eq ?_; simp [LabH, nO, nM, nI, nP, Itm.row, Ins.v, Ins.row, prow, Lab.label, Lab.add]; done)) (.at 3 rfl rfl (by first | exact SameB.refl _ | (refine SameB.of_eq ?_; simp; done) | (refine SameB.of_eq ?_; simp [LabH, nO, nM, nI, nP, Itm.row, Ins.v, Ins.row, prow, Lab.label, Lab.add]; done)) (.at 4 rfl rfl (by first | exact SameB.refl _ | (refine SameB.of_eq ?_; simp; done) | (refine SameB.of_eq ?_; simp [LabH, nO, nM, nI, nP, Itm.row, Ins.v, Ins.row, prow, Lab.label, Lab.add]; done)) trivial)))))
  · subst hQ; rw [Lab.jump, if_neg (by simpa using c0), if_neg (by simpa using c), if_pos c2]; exact .to ⟨si, rfl, rfl⟩ (.turn id ⟨(by first | exact SameV.refl _ | (refine SameV.of_eq ?_; simp [sget]; done) | (refine SameV.of_eq ?_; simp [sget, LabH, nO, nM, nI, nP, Itm.row, Ins.v, Ins.row, prow, Lab.label, Lab.add]; done)), trivial⟩ (.at 1 rfl rfl (by first | exact SameB.refl _ | (refine SameB.of_eq ?_; simp; done) | (refine SameB.of_eq ?_; simp [LabH, nO, nM, nI, nP, Itm.row, Ins.v, Ins.row, prow, Lab.label, Lab.add]; done)) (.at 2 rfl rfl (by first | exact SameB.refl _ | (refine SameB.of_eq ?_; simp; done) | (refine SameB.of_eq ?_; simp [LabH, nO, nM, nI, nP, Itm.row, Ins.v, Ins.row, prow, Lab.label, Lab.add]; done)) (.at 3 rfl rfl (by first | exact SameB.refl _ | (refine SameB.of_eq ?_; simp; done) | (refine SameB.of_eq ?_; simp [LabH, nO, nM, nI, nP, Itm.row, Ins.v, Ins.row, prow, Lab.label, Lab.add]; done)) (.at 4 rfl rfl (by first | exact SameB.refl _ | (refine SameB.of_eq ?_; simp; done) | (refine SameB.of_eq ?_; simp [LabH, nO, nM, nI, nP, Itm.row, Ins.v, Ins.row, prow, Lab.label, Lab.add]; done)) trivial)))))
  · subst hQ; rw [Lab.jump, if_neg (by simpa using c0), if_neg (by simpa using c), if_neg c2, if_pos (by omega)]; exact .to ⟨si, rfl, rfl⟩ (.turn id ⟨(by first | exact SameV.refl _ | (refine SameV.of_eq ?_; simp [sget]; done) | (refine SameV.of_eq ?_; simp [sget, LabH, nO, nM, nI, nP, Itm.row, Ins.v, Ins.row, prow, Lab.label, Lab.add]; done)), trivial⟩ (.at 1 rfl rfl (by first | exact SameB.refl _ | (refine SameB.of_eq ?_; simp; done) | (refine SameB.of_eq ?_; simp [LabH, nO, nM, nI, nP, Itm.row, Ins.v, Ins.row, prow, Lab.label, Lab.add]; done)) (.at 2 rfl rfl (by first | exact SameB.refl _ | (refine SameB.of_eq ?_; simp; done) | (refine SameB.of_eq ?_; simp [LabH, nO, nM, nI, nP, Itm.row, Ins.v, Ins.row, prow, Lab.label, Lab.add]; done)) (.at 3 rfl rfl (by first | exact SameB.refl _ | (refine SameB.of_eq ?_; simp; done) | (refine SameB.of_eq ?_; simp [LabH, nO, nM, nI, nP, Itm.row, Ins.v, Ins.row, prow, Lab.label, Lab.add]; done)) (.at 4 rfl rfl (by first | exact SameB.refl _ | (refine SameB.of_eq ?_; simp; done) | (refine SameB.of_eq ?_; simp [LabH, nO, nM, nI, nP, Itm.row, Ins.v, Ins.row, prow, Lab.label, Lab.add]; done)) trivial)))))
  rotate_left
  · subst hQ; rw [Lab.jump, if_neg (by simpa using c0), if_neg (by simpa using c), if_neg c2, if_pos (by omega)]; exact .to ⟨si, rfl, rfl⟩ (.turn id ⟨(by first | exact SameV.refl _ | (refine SameV.of_eq ?_; simp [sget]; done) | (refine SameV.of_eq ?_; simp [sget, LabH, nO, nM, nI, nP, Itm.row, Ins.v, Ins.row, prow, Lab.label, Lab.add]; done)), trivial⟩ (.at 1 rfl rfl (by first | exact SameB.refl _ | (refine SameB.of_eq ?_; simp; done) | (refine SameB.of_eq ?_; simp [LabH, nO, nM, nI, nP, Itm.row, Ins.v, Ins.row, prow, Lab.label, Lab.add]; done)) (.at 2 rfl rfl (by first | exact SameB.refl _ | (refine SameB.of_eq ?_; simp; done) | (refine SameB.of_eq ?_; simp [LabH, nO, nM, nI, nP, Itm.row, Ins.v, Ins.row, prow, Lab.label, Lab.add]; done)) (.at 3 rfl rfl (by first | exact SameB.refl _ | (refine SameB.of_eq ?_; simp; done) | (refine SameB.of_eq ?_; simp [LabH, nO, nM, nI, nP, Itm.row, Ins.v, Ins.row, prow, Lab.label, Lab.add]; done)) (.at 4 rfl rfl (by first | exact SameB.refl _ | (refine SameB.of_eq ?_; simp; done) | (refine SameB.of_eq ?_; simp [LabH, nO, nM, nI, nP, Itm.row, Ins.v, Ins.row, prow, Lab.label, Lab.add]; done)) trivial)))))
  · refine CallS.at [1, 2, 3, 4] [0] (room_c L so sm si sp _ hB) rfl rfl ?_
    rintro r h' n' hn ⟨rfl, rfl⟩
    simp -implicitDefEqProofs only [go_sem, Nat.reduceEqDiff, Nat.reduceAdd, Nat.reduceSub, Nat.reduceMul, Nat.reduceLeDiff, Nat.reduceLT, Nat.reduceBEq, Int.reduceToNat, Int.reduceLE, Int.reduceLT, Int.reduceEq, Int.reduceNe, Int.reduceAdd, Int.reduceSub, Int.reduceNeg, Int.toNat_natCast, Int.cast_ofNat_Int, Int.natCast_zero, Int.natCast_one, reduceCtorEq, reduceIte, Nat.lt_irrefl, and_self, not_false_eq_true, not_true_eq_false, LabH, nO, nM, nI, nP, Itm.row, Ins.v, Ins.row, prow, Lab.label, Lab.add]
    refine CallS.at [0, 1, 2, 3] [4] (addX_c L so sm si sp _ ⟨{ i with b := 0 }, line, label⟩ hB) rfl rfl ?_
    rintro r h' n' hn ⟨si', rfl, rfl⟩
    simp -implicitDefEqProofs only [go_sem, Nat.reduceEqDiff, Nat.reduceAdd, Nat.reduceSub, Nat.reduceMul, Nat.reduceLeDiff, Nat.reduceLT, Nat.reduceBEq, Int.reduceToNat, Int.reduceLE, Int.reduceLT, Int.reduceEq, Int.reduceNe, Int.reduceAdd, Int.reduceSub, Int.reduceNeg, Int.toNat_natCast, Int.cast_ofNat_Int, Int.natCast_zero, Int.natCast_one, reduceCtorEq, reduceIte, Nat.lt_irrefl, and_self, not_false_eq_true, not_true_eq_false, LabH, nO, nM, nI, nP, Itm.row, Ins.v, Ins.row, prow, Lab.label, Lab.add]
    subst hQ; rw [Lab.jump, if_neg (by simpa using c0), if_neg (by simpa using c), if_neg c2, if_neg (by omega), Lab.add]; exact .to ⟨si', rfl, rfl⟩ (.turn id ⟨(by first | exact SameV.refl _ | (refine SameV.of_eq ?_; simp [sget]; done) | (refine SameV.of_eq ?_; simp [sget, LabH, nO, nM, nI, nP, Itm.row, Ins.v, Ins.row, prow, Lab.label, Lab.add]; done)), trivial⟩ (.at 0 rfl rfl (by first | exact SameB.refl _ | (refine SameB.of_eq ?_; simp; done) | (refine SameB.of_eq ?_; simp [LabH, nO, nM, nI, nP, Itm.row, Ins.v, Ins.row, prow, Lab.label, Lab.add]; done)) (.at 1 rfl rfl (by first | exact SameB.refl _ | (refine SameB.of_eq ?_; simp; done) | (refine SameB.of_eq ?_; simp [LabH, nO, nM, nI, nP, Itm.row, Ins.v, Ins.row, prow, Lab.label, Lab.add]; done)) (.at 2 rfl rfl (by first | exact SameB.refl _ | (refine SameB.of_eq ?_; simp; done) | (refine SameB.of_eq ?_; simp [LabH, nO, nM, nI, nP, Itm.row, Ins.v, Ins.row, prow, Lab.label, Lab.add]; done)) (.at 3 rfl rfl (by first | exact SameB.refl _ | (refine SameB.of_eq ?_; simp; done) | (refine SameB.of_eq ?_; simp [LabH, nO, nM, nI, nP, Itm.row, Ins.v, Ins.row, prow, Lab.label, Lab.add]; done)) trivial)))))


theorem label_c (L : Lab) (so sm si sp n : Nat) (hB : L.places.length ≤ 1000) :
    CallS Tryd.prog 24 [.ptr nO so 0 0] (LabH so sm si sp L) n
      (fun r h' _ => ∃ sp', r = .int .i64 L.label.1 ∧ h' = LabH so sm si sp' L.label.2) := by
  refine CallS.enterK labels_Code_Label_ok (Nat.le_of_ble_eq_true rfl) fun Q hQ => Run.go 100 ?_
  simp -implicitDefEqProofs only [go_sem, Nat.reduceEqDiff, Nat.reduceAdd, Nat.reduceSub, Nat.reduceMul, Nat.reduceLeDiff, Nat.reduceLT, Nat.reduceBEq, Int.reduceToNat, Int.reduceLE, Int.reduceLT, Int.reduceEq, Int.reduceNe, Int.reduceAdd, Int.reduceSub, Int.reduceNeg, Int.toNat_natCast, Int.cast_ofNat_Int, Int.natCast_zero, Int.natCast_one, reduceCtorEq, reduceIte, Nat.lt_irrefl, and_self, not_false_eq_true, not_true_eq_false, LabH, nO, nM, nI, nP, Itm.row, Ins.v, Ins.row, prow, Lab.label, Lab.add, initSl]
  refine CallS.at [0, 1, 2, 3] [] (addP_c L so sm si sp _ hB) rfl rfl ?_
  rintro r h' n' hn ⟨sp', rfl, rfl⟩
  have hs := opens_set L.places 0
  rw [Nat.zero_add] at hs
  simp -implicitDefEqProofs only [go_sem, Nat.reduceEqDiff, Nat.reduceAdd, Nat.reduceSub, Nat.reduceMul, Nat.reduceLeDiff, Nat.reduceLT, Nat.reduceBEq, Int.reduceToNat, Int.reduceLE, Int.reduceLT, Int.reduceEq, Int.reduceNe, Int.reduceAdd, Int.reduceSub, Int.reduceNeg, Int.toNat_natCast, Int.cast_ofNat_Int, Int.natCast_zero, Int.natCast_one, reduceCtorEq, reduceIte, Nat.lt_irrefl, and_self, not_false_eq_true, not_true_eq_false, LabH, nO, nM, nI, nP, Itm.row, Ins.v, Ins.row, prow, Lab.label, Lab.add, opens_ok, hs]
  subst hQ
  exact .to ⟨sp', rfl, rfl⟩ (.turn id ⟨(by first | exact SameV.refl _ | (refine SameV.of_eq ?_; simp [sget]; done) | (refine SameV.of_eq ?_; simp [sget, LabH, nO, nM, nI, nP, Itm.row, Ins.v, Ins.row, prow, Lab.label, Lab.add]; done)), trivial⟩ (.at 1 rfl rfl (by first | exact SameB.refl _ | (refine SameB.of_eq ?_; simp; done) | (refine SameB.of_eq ?_; simp [LabH, nO, nM, nI, nP, Itm.row, Ins.v, Ins.row, prow, Lab.label, Lab.add]; done)) (.at 0 rfl rfl (by first | exact SameB.refl _ | (refine SameB.of_eq ?_; simp; done) | (refine SameB.of_eq ?_; simp [LabH, nO, nM, nI, nP, Itm.row, Ins.v, Ins.row, prow, Lab.label, Lab.add]; done)) (.at 2 rfl rfl (by first | exact SameB.refl _ | (refine SameB.of_eq ?_; simp; done) | (refine SameB.of_eq ?_; simp [LabH, nO, nM, nI, nP, Itm.row, Ins.v, Ins.row, prow, Lab.label, Lab.add]; done)) (.at 3 rfl rfl (by first | exact SameB.refl _ | (refine SameB.of_eq ?_; simp; done) | (refine SameB.of_eq ?_; simp [LabH, nO, nM, nI, nP, Itm.row, Ins.v, Ins.row, prow, Lab.label, Lab.add]; done)) trivial)))))

theorem getD_some {l : List Int} {k : Nat} {p : Int} (h : l[k]? = some p) : l.getD k 0 = p := by
  rw [List.getD_eq_getElem?_getD, h]; rfl

theorem place_c (L : Lab) (so sm si sp n : Nat) (label : Int) (hB : L.items.length ≤ 1000) :
    CallS Tryd.prog 23 [.ptr nO so 0 0, .int .i64 label] (LabH so sm si sp L) n
      (fun r h' _ => r = .int .i64 (L.place label).1 ∧ h' = LabH so sm si sp (L.place label).2) := by
  refine CallS.enterK labels_Code_Place_ok (Nat.le_of_ble_eq_true rfl) fun Q hQ => Run.go 100 ?_
  have hf := opens_find label L.places 0
  by_cases h1 : label < 0
  · have e : L.place label = (12, L) := by rw [Lab.place, if_pos (by omega)]
    simp -implicitDefEqProofs only [go_sem, Nat.reduceEqDiff, Nat.reduceAdd, Nat.reduceSub, Nat.reduceMul, Nat.reduceLeDiff, Nat.reduceLT, Nat.reduceBEq, Int.reduceToNat, Int.reduceLE, Int.reduceLT, Int.reduceEq, Int.reduceNe, Int.reduceAdd, Int.reduceSub, Int.reduceNeg, Int.toNat_natCast, Int.cast_ofNat_Int, Int.natCast_zero, Int.natCast_one, reduceCtorEq, reduceIte, Nat.lt_irrefl, and_self, not_false_eq_true, not_true_eq_false, LabH, nO, nM, nI, nP, Itm.row, Ins.v, Ins.row, prow, Lab.label, Lab.add, initSl, h1]
    subst hQ
    rw [e]; exact .is ⟨rfl, rfl⟩
  by_cases h2 : (L.places.length : Int) ≤ label
  · have e : L.place label = (12, L) := by rw [Lab.place, if_pos (by omega)]
    simp -implicitDefEqProofs only [go_sem, Nat.reduceEqDiff, Nat.reduceAdd, Nat.reduceSub, Nat.reduceMul, Nat.reduceLeDiff, Nat.reduceLT, Nat.reduceBEq, Int.reduceToNat, Int.reduceLE, Int.reduceLT, Int.reduceEq, Int.reduceNe, Int.reduceAdd, Int.reduceSub, Int.reduceNeg, Int.toNat_natCast, Int.cast_ofNat_Int, Int.natCast_zero, Int.natCast_one, reduceCtorEq, reduceIte, Nat.lt_irrefl, and_self, not_false_eq_true, not_true_eq_false, LabH, nO, nM, nI, nP, Itm.row, Ins.v, Ins.row, prow, Lab.label, Lab.add, initSl, h1, h2]
    subst hQ
    rw [e]; exact .is ⟨rfl, rfl⟩
  have hlt : label.toNat < L.places.length := by omega
  obtain ⟨p, hp⟩ : ∃ p, L.places[label.toNat]? = some p := ⟨L.places[label.toNat], by simp [hlt]⟩
  simp only [Int.natCast_zero, Int.sub_zero] at hf
  by_cases h3 : p = -1
  · have e : L.place label = (0, { L with places := L.places.set label.toNat (L.items.length : Nat) }) := by
      rw [Lab.place, if_neg (by omega), getD_some hp, if_neg (by simp [h3])]
    rw [if_pos ⟨by omega, by rw [hp, h3]⟩] at hf
    have hr := opens_rem (L.items.length : Nat) (by omega) L.places 0 label.toNat hlt
    rw [Nat.zero_add, Int.toNat_of_nonneg (by omega)] at hr
    simp -implicitDefEqProofs only [go_sem, Nat.reduceEqDiff, Nat.reduceAdd, Nat.reduceSub, Nat.reduceMul, Nat.reduceLeDiff, Nat.reduceLT, Nat.reduceBEq, Int.reduceToNat, Int.reduceLE, Int.reduceLT, Int.reduceEq, Int.reduceNe, Int.reduceAdd, Int.reduceSub, Int.reduceNeg, Int.toNat_natCast, Int.cast_ofNat_Int, Int.natCast_zero, Int.natCast_one, reduceCtorEq, reduceIte, Nat.lt_irrefl, and_self, not_false_eq_true, not_true_eq_false, LabH, nO, nM, nI, nP, Itm.row, Ins.v, Ins.row, prow, Lab.label, Lab.add, initSl, opens_ok, h1, h2, hf, hr]
    subst hQ
    rw [e]
    have hn : ¬ (L.items.length : Int) = -1 := by omega
    have hm : (L.places.map prow).set label.toNat [.int .i64 (L.items.length : Nat)] = (L.places.set label.toNat (L.items.length : Nat)).map prow := by rw [List.map_set, prow, if_neg hn]
    rw [hm]
    refine ⟨by omega, by omega, hlt, fun _ _ => .to ⟨rfl, rfl⟩ (.turn id ⟨(by first | exact SameV.refl _ | (refine SameV.of_eq ?_; simp [sget]; done) | (refine SameV.of_eq ?_; simp [sget, LabH, nO, nM, nI, nP, Itm.row, Ins.v, Ins.row, prow, Lab.label, Lab.add]; done)), trivial⟩ (.at 2 rfl rfl (by first | exact SameB.refl _ | (refine SameB.of_eq ?_; simp; done) | (refine SameB.of_eq ?_; simp [LabH, nO, nM, nI, nP, Itm.row, Ins.v, Ins.row, prow, Lab.label, Lab.add]; done)) (.at 1 rfl rfl (by first | exact SameB.refl _ | (refine SameB.of_eq ?_; simp; done) | (refine SameB.of_eq ?_; simp [LabH, nO, nM, nI, nP, Itm.row, Ins.v, Ins.row, prow, Lab.label, Lab.add]; done)) (.at 3 rfl rfl (by first | exact SameB.refl _ | (refine SameB.of_eq ?_; simp; done) | (refine SameB.of_eq ?_; simp [LabH, nO, nM, nI, nP, Itm.row, Ins.v, Ins.row, prow, Lab.label, Lab.add]; done)) (.at 0 rfl rfl (by first | exact SameB.refl _ | (refine SameB.of_eq ?_; simp; done) | (refine SameB.of_eq ?_; simp [LabH, nO, nM, nI, nP, Itm.row, Ins.v, Ins.row, prow, Lab.label, Lab.add]; done)) trivial)))))⟩
  · have e : L.place label = (10, L) := by rw [Lab.place, if_neg (by omega), getD_some hp, if_pos (by simpa using h3)]
    rw [if_neg (by rw [hp]; simp [h3])] at hf
    simp -implicitDefEqProofs only [go_sem, Nat.reduceEqDiff, Nat.reduceAdd, Nat.reduceSub, Nat.reduceMul, Nat.reduceLeDiff, Nat.reduceLT, Nat.reduceBEq, Int.reduceToNat, Int.reduceLE, Int.reduceLT, Int.reduceEq, Int.reduceNe, Int.reduceAdd, Int.reduceSub, Int.reduceNeg, Int.toNat_natCast, Int.cast_ofNat_Int, Int.natCast_zero, Int.natCast_one, reduceCtorEq, reduceIte, Nat.lt_irrefl, and_self, not_false_eq_true, not_true_eq_false, LabH, nO, nM, nI, nP, Itm.row, Ins.v, Ins.row, prow, Lab.label, Lab.add, initSl, opens_ok, h1, h2, hf]
    subst hQ
    rw [e]; exact .is ⟨rfl, rfl⟩

end Go.Proofs.YtlckjdhammcpaaaDoor
