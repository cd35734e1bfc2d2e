/-
  Equality of functions: of the parts. No condition.
-/
import Derived.Test.YtmhbbaheponmoaaDoorFnL
set_option linter.unusedVariables false
set_option linter.unusedSimpArgs false
set_option maxRecDepth 100000
set_option maxHeartbeats 0
namespace Go.Proofs.YtmhbbaheponmoaaDoor
open Go.Abs
attribute [local irreducible] CallS Run RndS

theorem ne_at {α : Type} {a b : List α} {k : Nat} {x y : α} (h1 : a[k]? = some x) (h2 : b[k]? = some y) (h : ¬ x = y) : ¬ a = b := fun e => by
  subst e; rw [h1] at h2; exact h (Option.some.inj h2)
theorem eq_all {α : Type} {a b : List α} (hl : a.length = b.length) (h : a.take a.length = b.take a.length) : a = b := by
  rw [List.take_length, hl, List.take_length] at h; exact h
theorem take_next {α : Type} {a b : List α} {k : Nat} {x : α} (h : a.take k = b.take k) (h1 : a[k]? = some x) (h2 : b[k]? = some x) : a.take (k + 1) = b.take (k + 1) := by
  rw [List.take_add_one, List.take_add_one, h, h1, h2]

theorem neq_ins {x y : Ins} (h : ¬ x = y) : (decide (x.op = y.op) && (decide (x.a = y.a) && (decide (x.b = y.b) && (decide (x.c = y.c) && decide (x.d = y.d))))) = false := by
  rw [Bool.eq_false_iff]
  intro hc
  simp only [Bool.and_eq_true, decide_eq_true_eq] at hc
  obtain ⟨_⟩ := x; obtain ⟨_⟩ := y
  simp_all
theorem equal_ins (a b : List Ins) (ha : a.length ≤ 1000000) : Pure Tryd.prog 33 [.isl (a.map Ins.row), .isl (b.map Ins.row)] (.bool (decide (a = b))) := by
  have la : (a.map Ins.row).length = a.length := List.length_map ..
  have lb : (b.map Ins.row).length = b.length := List.length_map ..
  have za := eq_true (rowsz_of Ins.row 5 (fun _ => rfl) a)
  have zb := eq_true (rowsz_of Ins.row 5 (fun _ => rfl) b)
  have ra : ∀ (k : Nat) x, a[k]? = some x → (a.map Ins.row)[k]? = some (Ins.row x) := fun k x hk => by rw [List.getElem?_map, hk]; rfl
  have rb : ∀ (k : Nat) x, b[k]? = some x → (b.map Ins.row)[k]? = some (Ins.row x) := fun k x hk => by rw [List.getElem?_map, hk]; rfl
  generalize a.map Ins.row = A at *
  generalize b.map Ins.row = B at *
  refine Pure.of 0 (CallS.enter slices_Equal_api_Instr_api_Instr_ok (Nat.le_of_ble_eq_true rfl) (Run.go 100 ?_))
  by_cases hl : a.length = b.length
  · have hl' : ((a.length : Int) = (b.length : Int)) = True := eq_true (by omega)
    simp -implicitDefEqProofs only [go_sem, Nat.reduceEqDiff, Nat.reduceAdd, Nat.reduceSub, Nat.reduceMul, Nat.reduceLeDiff, Nat.reduceLT, Nat.reduceBEq, Int.reduceToNat, Int.reduceLE, Int.reduceLT, Int.reduceEq, Int.reduceNe, Int.reduceAdd, Int.reduceSub, Int.reduceNeg, Int.toNat_natCast, Int.cast_ofNat_Int, Int.natCast_zero, Int.natCast_one, reduceCtorEq, reduceIte, Nat.lt_irrefl, and_self, not_false_eq_true, not_true_eq_false, initSl, la, lb, hl']
    refine Run.rounds (fun (k : Nat) => ⟨[(13, .int .i64 k), (12, .int .i64 a.length), (1, .isl B), (0, .isl A)], [], 0⟩) (fun k => k ≤ a.length ∧ a.take k = b.take k) (fun k => a.length - k) 0 (by simp -implicitDefEqProofs only [go_sem, Nat.reduceEqDiff, Nat.reduceAdd, Nat.reduceSub, Nat.reduceMul, Nat.reduceLeDiff, Nat.reduceLT, Nat.reduceBEq, Int.reduceToNat, Int.reduceLE, Int.reduceLT, Int.reduceEq, Int.reduceNe, Int.reduceAdd, Int.reduceSub, Int.reduceNeg, Int.toNat_natCast, Int.cast_ofNat_Int, Int.natCast_zero, Int.natCast_one, reduceCtorEq, reduceIte, Nat.lt_irrefl, and_self, not_false_eq_true, not_true_eq_false, hl']) ⟨Nat.zero_le _, rfl⟩ ?_
    rintro k ⟨hk, heq⟩ ih
    refine Run.unf slices_Equal_api_Instr_api_Instr_l0_eq (Run.go 100 ?_)
    by_cases hlt : k < a.length
    · have q0 : ((k : Int) < (a.length : Int)) = True := eq_true (by omega)
      have q1 : ((0 : Int) ≤ (k : Int)) = True := eq_true (by omega)
      have q2 : ((k : Int) < (b.length : Int)) = True := eq_true (by omega)
      obtain ⟨x, hx⟩ : ∃ x, a[k]? = some x := ⟨a[k], by simp [hlt]⟩
      obtain ⟨y, hy⟩ : ∃ y, b[k]? = some y := ⟨b[k]'(by omega), by simp [show k < b.length by omega]⟩
      have hxr := ra k x hx
      have hyr := rb k y hy
      have hzk : ((k + 1 : Nat) : Int) = (k : Int) + 1 := by omega
      by_cases hxy : x = y
      · subst hxy
        simp -implicitDefEqProofs only [go_sem, Nat.reduceEqDiff, Nat.reduceAdd, Nat.reduceSub, Nat.reduceMul, Nat.reduceLeDiff, Nat.reduceLT, Nat.reduceBEq, Int.reduceToNat, Int.reduceLE, Int.reduceLT, Int.reduceEq, Int.reduceNe, Int.reduceAdd, Int.reduceSub, Int.reduceNeg, Int.toNat_natCast, Int.cast_ofNat_Int, Int.natCast_zero, Int.natCast_one, reduceCtorEq, reduceIte, Nat.lt_irrefl, and_self, not_false_eq_true, not_true_eq_false, q0, q1, q2, la, lb, za, zb, hxr, hyr, Ins.row, Option.some.injEq, forall_eq']
        refine ⟨hlt, by omega, by omega, ?_⟩
        exact ih _ (k + 1) ⟨by omega, take_next heq hx hy⟩ (by omega) (by simp -implicitDefEqProofs only [go_sem, Nat.reduceEqDiff, Nat.reduceAdd, Nat.reduceSub, Nat.reduceMul, Nat.reduceLeDiff, Nat.reduceLT, Nat.reduceBEq, Int.reduceToNat, Int.reduceLE, Int.reduceLT, Int.reduceEq, Int.reduceNe, Int.reduceAdd, Int.reduceSub, Int.reduceNeg, Int.toNat_natCast, Int.cast_ofNat_Int, Int.natCast_zero, Int.natCast_one, reduceCtorEq, reduceIte, Nat.lt_irrefl, and_self, not_false_eq_true, not_true_eq_false, hzk])
      · have hq := neq_ins hxy
        have hne := ne_at hx hy hxy
        simp -implicitDefEqProofs only [go_sem, Nat.reduceEqDiff, Nat.reduceAdd, Nat.reduceSub, Nat.reduceMul, Nat.reduceLeDiff, Nat.reduceLT, Nat.reduceBEq, Int.reduceToNat, Int.reduceLE, Int.reduceLT, Int.reduceEq, Int.reduceNe, Int.reduceAdd, Int.reduceSub, Int.reduceNeg, Int.toNat_natCast, Int.cast_ofNat_Int, Int.natCast_zero, Int.natCast_one, reduceCtorEq, reduceIte, Nat.lt_irrefl, and_self, not_false_eq_true, not_true_eq_false, q0, q1, q2, la, lb, za, zb, hxr, hyr, Ins.row, hq, Option.some.injEq, forall_eq', hne]
        exact ⟨hlt, by omega⟩
    · have e : k = a.length := by omega
      subst e
      simp -implicitDefEqProofs only [go_sem, Nat.reduceEqDiff, Nat.reduceAdd, Nat.reduceSub, Nat.reduceMul, Nat.reduceLeDiff, Nat.reduceLT, Nat.reduceBEq, Int.reduceToNat, Int.reduceLE, Int.reduceLT, Int.reduceEq, Int.reduceNe, Int.reduceAdd, Int.reduceSub, Int.reduceNeg, Int.toNat_natCast, Int.cast_ofNat_Int, Int.natCast_zero, Int.natCast_one, reduceCtorEq, reduceIte, Nat.lt_irrefl, and_self, not_false_eq_true, not_true_eq_false, Int.lt_irrefl, eq_all hl heq]
  · have hl' : ((a.length : Int) = (b.length : Int)) = False := eq_false (by omega)
    have hne : ¬ a = b := fun e => hl (by rw [e])
    simp -implicitDefEqProofs only [go_sem, Nat.reduceEqDiff, Nat.reduceAdd, Nat.reduceSub, Nat.reduceMul, Nat.reduceLeDiff, Nat.reduceLT, Nat.reduceBEq, Int.reduceToNat, Int.reduceLE, Int.reduceLT, Int.reduceEq, Int.reduceNe, Int.reduceAdd, Int.reduceSub, Int.reduceNeg, Int.toNat_natCast, Int.cast_ofNat_Int, Int.natCast_zero, Int.natCast_one, reduceCtorEq, reduceIte, Nat.lt_irrefl, and_self, not_false_eq_true, not_true_eq_false, initSl, la, lb, hl', hne]
theorem neq_kst {x y : Kst} (h : ¬ x = y) : (decide (x.kind = y.kind) && ((decide (x.p = y.p) && decide (x.q = y.q)) && (decide (x.str = y.str) && decide (x.ref = y.ref)))) = false := by
  rw [Bool.eq_false_iff]
  intro hc
  simp only [Bool.and_eq_true, decide_eq_true_eq] at hc
  obtain ⟨_⟩ := x; obtain ⟨_⟩ := y
  simp_all
theorem equal_kst (a b : List Kst) (ha : a.length ≤ 1000000) : Pure Tryd.prog 35 [.isl (a.map Kst.row), .isl (b.map Kst.row)] (.bool (decide (a = b))) := by
  have la : (a.map Kst.row).length = a.length := List.length_map ..
  have lb : (b.map Kst.row).length = b.length := List.length_map ..
  have za := eq_true (rowsz_of Kst.row 5 (fun _ => rfl) a)
  have zb := eq_true (rowsz_of Kst.row 5 (fun _ => rfl) b)
  have ra : ∀ (k : Nat) x, a[k]? = some x → (a.map Kst.row)[k]? = some (Kst.row x) := fun k x hk => by rw [List.getElem?_map, hk]; rfl
  have rb : ∀ (k : Nat) x, b[k]? = some x → (b.map Kst.row)[k]? = some (Kst.row x) := fun k x hk => by rw [List.getElem?_map, hk]; rfl
  generalize a.map Kst.row = A at *
  generalize b.map Kst.row = B at *
  refine Pure.of 0 (CallS.enter slices_Equal_api_Value_api_Value_ok (Nat.le_of_ble_eq_true rfl) (Run.go 100 ?_))
  by_cases hl : a.length = b.length
  · have hl' : ((a.length : Int) = (b.length : Int)) = True := eq_true (by omega)
    simp -implicitDefEqProofs only [go_sem, Nat.reduceEqDiff, Nat.reduceAdd, Nat.reduceSub, Nat.reduceMul, Nat.reduceLeDiff, Nat.reduceLT, Nat.reduceBEq, Int.reduceToNat, Int.reduceLE, Int.reduceLT, Int.reduceEq, Int.reduceNe, Int.reduceAdd, Int.reduceSub, Int.reduceNeg, Int.toNat_natCast, Int.cast_ofNat_Int, Int.natCast_zero, Int.natCast_one, reduceCtorEq, reduceIte, Nat.lt_irrefl, and_self, not_false_eq_true, not_true_eq_false, initSl, la, lb, hl']
    refine Run.rounds (fun (k : Nat) => ⟨[(13, .int .i64 k), (12, .int .i64 a.length), (1, .isl B), (0, .isl A)], [], 0⟩) (fun k => k ≤ a.length ∧ a.take k = b.take k) (fun k => a.length - k) 0 (by simp -implicitDefEqProofs only [go_sem, Nat.reduceEqDiff, Nat.reduceAdd, Nat.reduceSub, Nat.reduceMul, Nat.reduceLeDiff, Nat.reduceLT, Nat.reduceBEq, Int.reduceToNat, Int.reduceLE, Int.reduceLT, Int.reduceEq, Int.reduceNe, Int.reduceAdd, Int.reduceSub, Int.reduceNeg, Int.toNat_natCast, Int.cast_ofNat_Int, Int.natCast_zero, Int.natCast_one, reduceCtorEq, reduceIte, Nat.lt_irrefl, and_self, not_false_eq_true, not_true_eq_false, hl']) ⟨Nat.zero_le _, rfl⟩ ?_
    rintro k ⟨hk, heq⟩ ih
    refine Run.unf slices_Equal_api_Value_api_Value_l0_eq (Run.go 100 ?_)
    by_cases hlt : k < a.length
    · have q0 : ((k : Int) < (a.length : Int)) = True := eq_true (by omega)
      have q1 : ((0 : Int) ≤ (k : Int)) = True := eq_true (by omega)
      have q2 : ((k : Int) < (b.length : Int)) = True := eq_true (by omega)
      obtain ⟨x, hx⟩ : ∃ x, a[k]? = some x := ⟨a[k], by simp [hlt]⟩
      obtain ⟨y, hy⟩ : ∃ y, b[k]? = some y := ⟨b[k]'(by omega), by simp [show k < b.length by omega]⟩
      have hxr := ra k x hx
      have hyr := rb k y hy
      have hzk : ((k + 1 : Nat) : Int) = (k : Int) + 1 := by omega
      by_cases hxy : x = y
      · subst hxy
        simp -implicitDefEqProofs only [go_sem, Nat.reduceEqDiff, Nat.reduceAdd, Nat.reduceSub, Nat.reduceMul, Nat.reduceLeDiff, Nat.reduceLT, Nat.reduceBEq, Int.reduceToNat, Int.reduceLE, Int.reduceLT, Int.reduceEq, Int.reduceNe, Int.reduceAdd, Int.reduceSub, Int.reduceNeg, Int.toNat_natCast, Int.cast_ofNat_Int, Int.natCast_zero, Int.natCast_one, reduceCtorEq, reduceIte, Nat.lt_irrefl, and_self, not_false_eq_true, not_true_eq_false, q0, q1, q2, la, lb, za, zb, hxr, hyr, Kst.row, Option.some.injEq, forall_eq']
        refine ⟨hlt, by omega, by omega, ?_⟩
        exact ih _ (k + 1) ⟨by omega, take_next heq hx hy⟩ (by omega) (by simp -implicitDefEqProofs only [go_sem, Nat.reduceEqDiff, Nat.reduceAdd, Nat.reduceSub, Nat.reduceMul, Nat.reduceLeDiff, Nat.reduceLT, Nat.reduceBEq, Int.reduceToNat, Int.reduceLE, Int.reduceLT, Int.reduceEq, Int.reduceNe, Int.reduceAdd, Int.reduceSub, Int.reduceNeg, Int.toNat_natCast, Int.cast_ofNat_Int, Int.natCast_zero, Int.natCast_one, reduceCtorEq, reduceIte, Nat.lt_irrefl, and_self, not_false_eq_true, not_true_eq_false, hzk])
      · have hq := neq_kst hxy
        have hne := ne_at hx hy hxy
        simp -implicitDefEqProofs only [go_sem, Nat.reduceEqDiff, Nat.reduceAdd, Nat.reduceSub, Nat.reduceMul, Nat.reduceLeDiff, Nat.reduceLT, Nat.reduceBEq, Int.reduceToNat, Int.reduceLE, Int.reduceLT, Int.reduceEq, Int.reduceNe, Int.reduceAdd, Int.reduceSub, Int.reduceNeg, Int.toNat_natCast, Int.cast_ofNat_Int, Int.natCast_zero, Int.natCast_one, reduceCtorEq, reduceIte, Nat.lt_irrefl, and_self, not_false_eq_true, not_true_eq_false, q0, q1, q2, la, lb, za, zb, hxr, hyr, Kst.row, hq, Option.some.injEq, forall_eq', hne]
        exact ⟨hlt, by omega⟩
    · have e : k = a.length := by omega
      subst e
      simp -implicitDefEqProofs only [go_sem, Nat.reduceEqDiff, Nat.reduceAdd, Nat.reduceSub, Nat.reduceMul, Nat.reduceLeDiff, Nat.reduceLT, Nat.reduceBEq, Int.reduceToNat, Int.reduceLE, Int.reduceLT, Int.reduceEq, Int.reduceNe, Int.reduceAdd, Int.reduceSub, Int.reduceNeg, Int.toNat_natCast, Int.cast_ofNat_Int, Int.natCast_zero, Int.natCast_one, reduceCtorEq, reduceIte, Nat.lt_irrefl, and_self, not_false_eq_true, not_true_eq_false, Int.lt_irrefl, eq_all hl heq]
  · have hl' : ((a.length : Int) = (b.length : Int)) = False := eq_false (by omega)
    have hne : ¬ a = b := fun e => hl (by rw [e])
    simp -implicitDefEqProofs only [go_sem, Nat.reduceEqDiff, Nat.reduceAdd, Nat.reduceSub, Nat.reduceMul, Nat.reduceLeDiff, Nat.reduceLT, Nat.reduceBEq, Int.reduceToNat, Int.reduceLE, Int.reduceLT, Int.reduceEq, Int.reduceNe, Int.reduceAdd, Int.reduceSub, Int.reduceNeg, Int.toNat_natCast, Int.cast_ofNat_Int, Int.natCast_zero, Int.natCast_one, reduceCtorEq, reduceIte, Nat.lt_irrefl, and_self, not_false_eq_true, not_true_eq_false, initSl, la, lb, hl', hne]
theorem neq_upv {x y : Upv} (h : ¬ x = y) : (decide (x.name = y.name) && (decide (x.loc = y.loc) && decide (x.idx = y.idx))) = false := by
  rw [Bool.eq_false_iff]
  intro hc
  simp only [Bool.and_eq_true, decide_eq_true_eq] at hc
  obtain ⟨_⟩ := x; obtain ⟨_⟩ := y
  simp_all
theorem equal_upv (a b : List Upv) (ha : a.length ≤ 1000000) : Pure Tryd.prog 36 [.isl (a.map Upv.row), .isl (b.map Upv.row)] (.bool (decide (a = b))) := by
  have la : (a.map Upv.row).length = a.length := List.length_map ..
  have lb : (b.map Upv.row).length = b.length := List.length_map ..
  have za := eq_true (rowsz_of Upv.row 3 (fun _ => rfl) a)
  have zb := eq_true (rowsz_of Upv.row 3 (fun _ => rfl) b)
  have ra : ∀ (k : Nat) x, a[k]? = some x → (a.map Upv.row)[k]? = some (Upv.row x) := fun k x hk => by rw [List.getElem?_map, hk]; rfl
  have rb : ∀ (k : Nat) x, b[k]? = some x → (b.map Upv.row)[k]? = some (Upv.row x) := fun k x hk => by rw [List.getElem?_map, hk]; rfl
  generalize a.map Upv.row = A at *
  generalize b.map Upv.row = B at *
  refine Pure.of 0 (CallS.enter slices_Equal_api_Up_api_Up_ok (Nat.le_of_ble_eq_true rfl) (Run.go 100 ?_))
  by_cases hl : a.length = b.length
  · have hl' : ((a.length : Int) = (b.length : Int)) = True := eq_true (by omega)
    simp -implicitDefEqProofs only [go_sem, Nat.reduceEqDiff, Nat.reduceAdd, Nat.reduceSub, Nat.reduceMul, Nat.reduceLeDiff, Nat.reduceLT, Nat.reduceBEq, Int.reduceToNat, Int.reduceLE, Int.reduceLT, Int.reduceEq, Int.reduceNe, Int.reduceAdd, Int.reduceSub, Int.reduceNeg, Int.toNat_natCast, Int.cast_ofNat_Int, Int.natCast_zero, Int.natCast_one, reduceCtorEq, reduceIte, Nat.lt_irrefl, and_self, not_false_eq_true, not_true_eq_false, initSl, la, lb, hl']
    refine Run.rounds (fun (k : Nat) => ⟨[(13, .int .i64 k), (12, .int .i64 a.length), (1, .isl B), (0, .isl A)], [], 0⟩) (fun k => k ≤ a.length ∧ a.take k = b.take k) (fun k => a.length - k) 0 (by simp -implicitDefEqProofs only [go_sem, Nat.reduceEqDiff, Nat.reduceAdd, Nat.reduceSub, Nat.reduceMul, Nat.reduceLeDiff, Nat.reduceLT, Nat.reduceBEq, Int.reduceToNat, Int.reduceLE, Int.reduceLT, Int.reduceEq, Int.reduceNe, Int.reduceAdd, Int.reduceSub, Int.reduceNeg, Int.toNat_natCast, Int.cast_ofNat_Int, Int.natCast_zero, Int.natCast_one, reduceCtorEq, reduceIte, Nat.lt_irrefl, and_self, not_false_eq_true, not_true_eq_false, hl']) ⟨Nat.zero_le _, rfl⟩ ?_
    rintro k ⟨hk, heq⟩ ih
    refine Run.unf slices_Equal_api_Up_api_Up_l0_eq (Run.go 100 ?_)
    by_cases hlt : k < a.length
    · have q0 : ((k : Int) < (a.length : Int)) = True := eq_true (by omega)
      have q1 : ((0 : Int) ≤ (k : Int)) = True := eq_true (by omega)
      have q2 : ((k : Int) < (b.length : Int)) = True := eq_true (by omega)
      obtain ⟨x, hx⟩ : ∃ x, a[k]? = some x := ⟨a[k], by simp [hlt]⟩
      obtain ⟨y, hy⟩ : ∃ y, b[k]? = some y := ⟨b[k]'(by omega), by simp [show k < b.length by omega]⟩
      have hxr := ra k x hx
      have hyr := rb k y hy
      have hzk : ((k + 1 : Nat) : Int) = (k : Int) + 1 := by omega
      by_cases hxy : x = y
      · subst hxy
        simp -implicitDefEqProofs only [go_sem, Nat.reduceEqDiff, Nat.reduceAdd, Nat.reduceSub, Nat.reduceMul, Nat.reduceLeDiff, Nat.reduceLT, Nat.reduceBEq, Int.reduceToNat, Int.reduceLE, Int.reduceLT, Int.reduceEq, Int.reduceNe, Int.reduceAdd, Int.reduceSub, Int.reduceNeg, Int.toNat_natCast, Int.cast_ofNat_Int, Int.natCast_zero, Int.natCast_one, reduceCtorEq, reduceIte, Nat.lt_irrefl, and_self, not_false_eq_true, not_true_eq_false, q0, q1, q2, la, lb, za, zb, hxr, hyr, Upv.row, Option.some.injEq, forall_eq']
        refine ⟨hlt, by omega, by omega, ?_⟩
        exact ih _ (k + 1) ⟨by omega, take_next heq hx hy⟩ (by omega) (by simp -implicitDefEqProofs only [go_sem, Nat.reduceEqDiff, Nat.reduceAdd, Nat.reduceSub, Nat.reduceMul, Nat.reduceLeDiff, Nat.reduceLT, Nat.reduceBEq, Int.reduceToNat, Int.reduceLE, Int.reduceLT, Int.reduceEq, Int.reduceNe, Int.reduceAdd, Int.reduceSub, Int.reduceNeg, Int.toNat_natCast, Int.cast_ofNat_Int, Int.natCast_zero, Int.natCast_one, reduceCtorEq, reduceIte, Nat.lt_irrefl, and_self, not_false_eq_true, not_true_eq_false, hzk])
      · have hq := neq_upv hxy
        have hne := ne_at hx hy hxy
        simp -implicitDefEqProofs only [go_sem, Nat.reduceEqDiff, Nat.reduceAdd, Nat.reduceSub, Nat.reduceMul, Nat.reduceLeDiff, Nat.reduceLT, Nat.reduceBEq, Int.reduceToNat, Int.reduceLE, Int.reduceLT, Int.reduceEq, Int.reduceNe, Int.reduceAdd, Int.reduceSub, Int.reduceNeg, Int.toNat_natCast, Int.cast_ofNat_Int, Int.natCast_zero, Int.natCast_one, reduceCtorEq, reduceIte, Nat.lt_irrefl, and_self, not_false_eq_true, not_true_eq_false, q0, q1, q2, la, lb, za, zb, hxr, hyr, Upv.row, hq, Option.some.injEq, forall_eq', hne]
        exact ⟨hlt, by omega⟩
    · have e : k = a.length := by omega
      subst e
      simp -implicitDefEqProofs only [go_sem, Nat.reduceEqDiff, Nat.reduceAdd, Nat.reduceSub, Nat.reduceMul, Nat.reduceLeDiff, Nat.reduceLT, Nat.reduceBEq, Int.reduceToNat, Int.reduceLE, Int.reduceLT, Int.reduceEq, Int.reduceNe, Int.reduceAdd, Int.reduceSub, Int.reduceNeg, Int.toNat_natCast, Int.cast_ofNat_Int, Int.natCast_zero, Int.natCast_one, reduceCtorEq, reduceIte, Nat.lt_irrefl, and_self, not_false_eq_true, not_true_eq_false, Int.lt_irrefl, eq_all hl heq]
  · have hl' : ((a.length : Int) = (b.length : Int)) = False := eq_false (by omega)
    have hne : ¬ a = b := fun e => hl (by rw [e])
    simp -implicitDefEqProofs only [go_sem, Nat.reduceEqDiff, Nat.reduceAdd, Nat.reduceSub, Nat.reduceMul, Nat.reduceLeDiff, Nat.reduceLT, Nat.reduceBEq, Int.reduceToNat, Int.reduceLE, Int.reduceLT, Int.reduceEq, Int.reduceNe, Int.reduceAdd, Int.reduceSub, Int.reduceNeg, Int.toNat_natCast, Int.cast_ofNat_Int, Int.natCast_zero, Int.natCast_one, reduceCtorEq, reduceIte, Nat.lt_irrefl, and_self, not_false_eq_true, not_true_eq_false, initSl, la, lb, hl', hne]
theorem neq_vr {x y : Vr} (h : ¬ x = y) : (decide (x.name = y.name) && (decide (x.reg = y.reg) && (decide (x.lo = y.lo) && (decide (x.hi = y.hi) && decide (x.attr = y.attr))))) = false := by
  rw [Bool.eq_false_iff]
  intro hc
  simp only [Bool.and_eq_true, decide_eq_true_eq] at hc
  obtain ⟨_⟩ := x; obtain ⟨_⟩ := y
  simp_all
theorem equal_vr (a b : List Vr) (ha : a.length ≤ 1000000) : Pure Tryd.prog 37 [.isl (a.map Vr.row), .isl (b.map Vr.row)] (.bool (decide (a = b))) := by
  have la : (a.map Vr.row).length = a.length := List.length_map ..
  have lb : (b.map Vr.row).length = b.length := List.length_map ..
  have za := eq_true (rowsz_of Vr.row 5 (fun _ => rfl) a)
  have zb := eq_true (rowsz_of Vr.row 5 (fun _ => rfl) b)
  have ra : ∀ (k : Nat) x, a[k]? = some x → (a.map Vr.row)[k]? = some (Vr.row x) := fun k x hk => by rw [List.getElem?_map, hk]; rfl
  have rb : ∀ (k : Nat) x, b[k]? = some x → (b.map Vr.row)[k]? = some (Vr.row x) := fun k x hk => by rw [List.getElem?_map, hk]; rfl
  generalize a.map Vr.row = A at *
  generalize b.map Vr.row = B at *
  refine Pure.of 0 (CallS.enter slices_Equal_api_Var_api_Var_ok (Nat.le_of_ble_eq_true rfl) (Run.go 100 ?_))
  by_cases hl : a.length = b.length
  · have hl' : ((a.length : Int) = (b.length : Int)) = True := eq_true (by omega)
    simp -implicitDefEqProofs only [go_sem, Nat.reduceEqDiff, Nat.reduceAdd, Nat.reduceSub, Nat.reduceMul, Nat.reduceLeDiff, Nat.reduceLT, Nat.reduceBEq, Int.reduceToNat, Int.reduceLE, Int.reduceLT, Int.reduceEq, Int.reduceNe, Int.reduceAdd, Int.reduceSub, Int.reduceNeg, Int.toNat_natCast, Int.cast_ofNat_Int, Int.natCast_zero, Int.natCast_one, reduceCtorEq, reduceIte, Nat.lt_irrefl, and_self, not_false_eq_true, not_true_eq_false, initSl, la, lb, hl']
    refine Run.rounds (fun (k : Nat) => ⟨[(13, .int .i64 k), (12, .int .i64 a.length), (1, .isl B), (0, .isl A)], [], 0⟩) (fun k => k ≤ a.length ∧ a.take k = b.take k) (fun k => a.length - k) 0 (by simp -implicitDefEqProofs only [go_sem, Nat.reduceEqDiff, Nat.reduceAdd, Nat.reduceSub, Nat.reduceMul, Nat.reduceLeDiff, Nat.reduceLT, Nat.reduceBEq, Int.reduceToNat, Int.reduceLE, Int.reduceLT, Int.reduceEq, Int.reduceNe, Int.reduceAdd, Int.reduceSub, Int.reduceNeg, Int.toNat_natCast, Int.cast_ofNat_Int, Int.natCast_zero, Int.natCast_one, reduceCtorEq, reduceIte, Nat.lt_irrefl, and_self, not_false_eq_true, not_true_eq_false, hl']) ⟨Nat.zero_le _, rfl⟩ ?_
    rintro k ⟨hk, heq⟩ ih
    refine Run.unf slices_Equal_api_Var_api_Var_l0_eq (Run.go 100 ?_)
    by_cases hlt : k < a.length
    · have q0 : ((k : Int) < (a.length : Int)) = True := eq_true (by omega)
      have q1 : ((0 : Int) ≤ (k : Int)) = True := eq_true (by omega)
      have q2 : ((k : Int) < (b.length : Int)) = True := eq_true (by omega)
      obtain ⟨x, hx⟩ : ∃ x, a[k]? = some x := ⟨a[k], by simp [hlt]⟩
      obtain ⟨y, hy⟩ : ∃ y, b[k]? = some y := ⟨b[k]'(by omega), by simp [show k < b.length by omega]⟩
      have hxr := ra k x hx
      have hyr := rb k y hy
      have hzk : ((k + 1 : Nat) : Int) = (k : Int) + 1 := by omega
      by_cases hxy : x = y
      · subst hxy
        simp -implicitDefEqProofs only [go_sem, Nat.reduceEqDiff, Nat.reduceAdd, Nat.reduceSub, Nat.reduceMul, Nat.reduceLeDiff, Nat.reduceLT, Nat.reduceBEq, Int.reduceToNat, Int.reduceLE, Int.reduceLT, Int.reduceEq, Int.reduceNe, Int.reduceAdd, Int.reduceSub, Int.reduceNeg, Int.toNat_natCast, Int.cast_ofNat_Int, Int.natCast_zero, Int.natCast_one, reduceCtorEq, reduceIte, Nat.lt_irrefl, and_self, not_false_eq_true, not_true_eq_false, q0, q1, q2, la, lb, za, zb, hxr, hyr, Vr.row, Option.some.injEq, forall_eq']
        refine ⟨hlt, by omega, by omega, ?_⟩
        exact ih _ (k + 1) ⟨by omega, take_next heq hx hy⟩ (by omega) (by simp -implicitDefEqProofs only [go_sem, Nat.reduceEqDiff, Nat.reduceAdd, Nat.reduceSub, Nat.reduceMul, Nat.reduceLeDiff, Nat.reduceLT, Nat.reduceBEq, Int.reduceToNat, Int.reduceLE, Int.reduceLT, Int.reduceEq, Int.reduceNe, Int.reduceAdd, Int.reduceSub, Int.reduceNeg, Int.toNat_natCast, Int.cast_ofNat_Int, Int.natCast_zero, Int.natCast_one, reduceCtorEq, reduceIte, Nat.lt_irrefl, and_self, not_false_eq_true, not_true_eq_false, hzk])
      · have hq := neq_vr hxy
        have hne := ne_at hx hy hxy
        simp -implicitDefEqProofs only [go_sem, Nat.reduceEqDiff, Nat.reduceAdd, Nat.reduceSub, Nat.reduceMul, Nat.reduceLeDiff, Nat.reduceLT, Nat.reduceBEq, Int.reduceToNat, Int.reduceLE, Int.reduceLT, Int.reduceEq, Int.reduceNe, Int.reduceAdd, Int.reduceSub, Int.reduceNeg, Int.toNat_natCast, Int.cast_ofNat_Int, Int.natCast_zero, Int.natCast_one, reduceCtorEq, reduceIte, Nat.lt_irrefl, and_self, not_false_eq_true, not_true_eq_false, q0, q1, q2, la, lb, za, zb, hxr, hyr, Vr.row, hq, Option.some.injEq, forall_eq', hne]
        exact ⟨hlt, by omega⟩
    · have e : k = a.length := by omega
      subst e
      simp -implicitDefEqProofs only [go_sem, Nat.reduceEqDiff, Nat.reduceAdd, Nat.reduceSub, Nat.reduceMul, Nat.reduceLeDiff, Nat.reduceLT, Nat.reduceBEq, Int.reduceToNat, Int.reduceLE, Int.reduceLT, Int.reduceEq, Int.reduceNe, Int.reduceAdd, Int.reduceSub, Int.reduceNeg, Int.toNat_natCast, Int.cast_ofNat_Int, Int.natCast_zero, Int.natCast_one, reduceCtorEq, reduceIte, Nat.lt_irrefl, and_self, not_false_eq_true, not_true_eq_false, Int.lt_irrefl, eq_all hl heq]
  · have hl' : ((a.length : Int) = (b.length : Int)) = False := eq_false (by omega)
    have hne : ¬ a = b := fun e => hl (by rw [e])
    simp -implicitDefEqProofs only [go_sem, Nat.reduceEqDiff, Nat.reduceAdd, Nat.reduceSub, Nat.reduceMul, Nat.reduceLeDiff, Nat.reduceLT, Nat.reduceBEq, Int.reduceToNat, Int.reduceLE, Int.reduceLT, Int.reduceEq, Int.reduceNe, Int.reduceAdd, Int.reduceSub, Int.reduceNeg, Int.toNat_natCast, Int.cast_ofNat_Int, Int.natCast_zero, Int.natCast_one, reduceCtorEq, reduceIte, Nat.lt_irrefl, and_self, not_false_eq_true, not_true_eq_false, initSl, la, lb, hl', hne]
theorem equal_int (a b : List Int) (ha : a.length ≤ 1000000) : Pure Tryd.prog 34 [.isl (a.map lrow), .isl (b.map lrow)] (.bool (decide (a = b))) := by
  have la : (a.map lrow).length = a.length := List.length_map ..
  have lb : (b.map lrow).length = b.length := List.length_map ..
  have za := eq_true (rowsz_of lrow 1 (fun _ => rfl) a)
  have zb := eq_true (rowsz_of lrow 1 (fun _ => rfl) b)
  have ra : ∀ (k : Nat) x, a[k]? = some x → (a.map lrow)[k]? = some (lrow x) := fun k x hk => by rw [List.getElem?_map, hk]; rfl
  have rb : ∀ (k : Nat) x, b[k]? = some x → (b.map lrow)[k]? = some (lrow x) := fun k x hk => by rw [List.getElem?_map, hk]; rfl
  generalize a.map lrow = A at *
  generalize b.map lrow = B at *
  refine Pure.of 0 (CallS.enter slices_Equal_int_int_ok (Nat.le_of_ble_eq_true rfl) (Run.go 100 ?_))
  by_cases hl : a.length = b.length
  · have hl' : ((a.length : Int) = (b.length : Int)) = True := eq_true (by omega)
    simp -implicitDefEqProofs only [go_sem, Nat.reduceEqDiff, Nat.reduceAdd, Nat.reduceSub, Nat.reduceMul, Nat.reduceLeDiff, Nat.reduceLT, Nat.reduceBEq, Int.reduceToNat, Int.reduceLE, Int.reduceLT, Int.reduceEq, Int.reduceNe, Int.reduceAdd, Int.reduceSub, Int.reduceNeg, Int.toNat_natCast, Int.cast_ofNat_Int, Int.natCast_zero, Int.natCast_one, reduceCtorEq, reduceIte, Nat.lt_irrefl, and_self, not_false_eq_true, not_true_eq_false, initSl, la, lb, hl']
    refine Run.rounds (fun (k : Nat) => ⟨[(13, .int .i64 k), (12, .int .i64 a.length), (1, .isl B), (0, .isl A)], [], 0⟩) (fun k => k ≤ a.length ∧ a.take k = b.take k) (fun k => a.length - k) 0 (by simp -implicitDefEqProofs only [go_sem, Nat.reduceEqDiff, Nat.reduceAdd, Nat.reduceSub, Nat.reduceMul, Nat.reduceLeDiff, Nat.reduceLT, Nat.reduceBEq, Int.reduceToNat, Int.reduceLE, Int.reduceLT, Int.reduceEq, Int.reduceNe, Int.reduceAdd, Int.reduceSub, Int.reduceNeg, Int.toNat_natCast, Int.cast_ofNat_Int, Int.natCast_zero, Int.natCast_one, reduceCtorEq, reduceIte, Nat.lt_irrefl, and_self, not_false_eq_true, not_true_eq_false, hl']) ⟨Nat.zero_le _, rfl⟩ ?_
    rintro k ⟨hk, heq⟩ ih
    refine Run.unf slices_Equal_int_int_l0_eq (Run.go 100 ?_)
    by_cases hlt : k < a.length
    · have q0 : ((k : Int) < (a.length : Int)) = True := eq_true (by omega)
      have q1 : ((0 : Int) ≤ (k : Int)) = True := eq_true (by omega)
      have q2 : ((k : Int) < (b.length : Int)) = True := eq_true (by omega)
      obtain ⟨x, hx⟩ : ∃ x, a[k]? = some x := ⟨a[k], by simp [hlt]⟩
      obtain ⟨y, hy⟩ : ∃ y, b[k]? = some y := ⟨b[k]'(by omega), by simp [show k < b.length by omega]⟩
      have hxr := ra k x hx
      have hyr := rb k y hy
      have hzk : ((k + 1 : Nat) : Int) = (k : Int) + 1 := by omega
      by_cases hxy : x = y
      · simp -implicitDefEqProofs only [go_sem, Nat.reduceEqDiff, Nat.reduceAdd, Nat.reduceSub, Nat.reduceMul, Nat.reduceLeDiff, Nat.reduceLT, Nat.reduceBEq, Int.reduceToNat, Int.reduceLE, Int.reduceLT, Int.reduceEq, Int.reduceNe, Int.reduceAdd, Int.reduceSub, Int.reduceNeg, Int.toNat_natCast, Int.cast_ofNat_Int, Int.natCast_zero, Int.natCast_one, reduceCtorEq, reduceIte, Nat.lt_irrefl, and_self, not_false_eq_true, not_true_eq_false, q0, q1, q2, la, lb, za, zb, hxr, hyr, lrow, hxy, Option.some.injEq, forall_eq']
        refine ⟨hlt, by omega, by omega, ?_⟩
        exact ih _ (k + 1) ⟨by omega, take_next heq hx (hxy ▸ hy)⟩ (by omega) (by simp -implicitDefEqProofs only [go_sem, Nat.reduceEqDiff, Nat.reduceAdd, Nat.reduceSub, Nat.reduceMul, Nat.reduceLeDiff, Nat.reduceLT, Nat.reduceBEq, Int.reduceToNat, Int.reduceLE, Int.reduceLT, Int.reduceEq, Int.reduceNe, Int.reduceAdd, Int.reduceSub, Int.reduceNeg, Int.toNat_natCast, Int.cast_ofNat_Int, Int.natCast_zero, Int.natCast_one, reduceCtorEq, reduceIte, Nat.lt_irrefl, and_self, not_false_eq_true, not_true_eq_false, hzk])
      · have hne := ne_at hx hy hxy
        simp -implicitDefEqProofs only [go_sem, Nat.reduceEqDiff, Nat.reduceAdd, Nat.reduceSub, Nat.reduceMul, Nat.reduceLeDiff, Nat.reduceLT, Nat.reduceBEq, Int.reduceToNat, Int.reduceLE, Int.reduceLT, Int.reduceEq, Int.reduceNe, Int.reduceAdd, Int.reduceSub, Int.reduceNeg, Int.toNat_natCast, Int.cast_ofNat_Int, Int.natCast_zero, Int.natCast_one, reduceCtorEq, reduceIte, Nat.lt_irrefl, and_self, not_false_eq_true, not_true_eq_false, q0, q1, q2, la, lb, za, zb, hxr, hyr, lrow, hxy, Option.some.injEq, forall_eq', hne]
        exact ⟨hlt, by omega⟩
    · have e : k = a.length := by omega
      subst e
      simp -implicitDefEqProofs only [go_sem, Nat.reduceEqDiff, Nat.reduceAdd, Nat.reduceSub, Nat.reduceMul, Nat.reduceLeDiff, Nat.reduceLT, Nat.reduceBEq, Int.reduceToNat, Int.reduceLE, Int.reduceLT, Int.reduceEq, Int.reduceNe, Int.reduceAdd, Int.reduceSub, Int.reduceNeg, Int.toNat_natCast, Int.cast_ofNat_Int, Int.natCast_zero, Int.natCast_one, reduceCtorEq, reduceIte, Nat.lt_irrefl, and_self, not_false_eq_true, not_true_eq_false, Int.lt_irrefl, eq_all hl heq]
  · have hl' : ((a.length : Int) = (b.length : Int)) = False := eq_false (by omega)
    have hne : ¬ a = b := fun e => hl (by rw [e])
    simp -implicitDefEqProofs only [go_sem, Nat.reduceEqDiff, Nat.reduceAdd, Nat.reduceSub, Nat.reduceMul, Nat.reduceLeDiff, Nat.reduceLT, Nat.reduceBEq, Int.reduceToNat, Int.reduceLE, Int.reduceLT, Int.reduceEq, Int.reduceNe, Int.reduceAdd, Int.reduceSub, Int.reduceNeg, Int.toNat_natCast, Int.cast_ofNat_Int, Int.natCast_zero, Int.natCast_one, reduceCtorEq, reduceIte, Nat.lt_irrefl, and_self, not_false_eq_true, not_true_eq_false, initSl, la, lb, hl', hne]
end Go.Proofs.YtmhbbaheponmoaaDoor
