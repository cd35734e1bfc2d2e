/-
  Equality of functions, of the reference: all within. No condition.
-/
import Derived.Test.YtmhbbaheponmoaaDoorFnQ3
set_option linter.unusedVariables false
set_option linter.unusedSimpArgs false
set_option maxRecDepth 100000
set_option maxHeartbeats 0
namespace Go.Proofs.YtmhbbaheponmoaaDoor
open Go.Abs
attribute [local irreducible] CallS Run RndS

theorem rsame_pure (p q : Fn) (hp : p.bd) (hq : q.bd) (hpc : p.each.length ≤ 1000000) (hqc : q.each.length ≤ 1000000) : Pure Tryd.prog 17 [.agg p.row, .agg q.row] (.bool (sameB p q)) := by
  have hep := reach_call p hp hpc
  have heq := reach_call q hq hqc
  have sp := Fn.row_sub lost p
  have sq := Fn.row_sub lost q
  obtain ⟨f1, f2⟩ := fn_row11 p
  obtain ⟨e1, e2⟩ := fn_row11 q
  have la : (p.each.map Fn.row).length = p.each.length := List.length_map ..
  have lb : (q.each.map Fn.row).length = q.each.length := List.length_map ..
  have za := eq_true (rowsz_of Fn.row 11 Fn.row_len p.each)
  have zb := eq_true (rowsz_of Fn.row 11 Fn.row_len q.each)
  have ra : ∀ (k : Nat) x, p.each[k]? = some x → (p.each.map Fn.row)[k]? = some (Fn.row x) := fun k x hk => by rw [List.getElem?_map, hk]; rfl
  have rb : ∀ (k : Nat) x, q.each[k]? = some x → (q.each.map Fn.row)[k]? = some (Fn.row x) := fun k x hk => by rw [List.getElem?_map, hk]; rfl
  generalize p.each.map Fn.row = A at *
  generalize q.each.map Fn.row = B at *
  generalize p.row = pr at *
  generalize q.row = qr at *
  refine Pure.of 0 (CallS.enter scriptingref33_Same_ok (Nat.le_of_ble_eq_true rfl) (Run.go 100 ?_))
  simp -implicitDefEqProofs only [go_sem, Nat.reduceEqDiff, Nat.reduceAdd, Nat.reduceSub, Nat.reduceMul, Nat.reduceLeDiff, Nat.reduceLT, Nat.reduceBEq, Int.reduceToNat, Int.reduceLE, Int.reduceLT, Int.reduceEq, Int.reduceNe, Int.reduceAdd, Int.reduceSub, Int.reduceNeg, Int.toNat_natCast, Int.cast_ofNat_Int, Int.natCast_zero, Int.natCast_one, reduceCtorEq, reduceIte, Nat.lt_irrefl, and_self, not_false_eq_true, not_true_eq_false, initSl, f1, f2, e1, e2]
  refine ⟨?_, ?_⟩ <;>
  · refine CallS.pureF hep (by simp -implicitDefEqProofs only [go_sem, Nat.reduceEqDiff, Nat.reduceAdd, Nat.reduceSub, Nat.reduceMul, Nat.reduceLeDiff, Nat.reduceLT, Nat.reduceBEq, Int.reduceToNat, Int.reduceLE, Int.reduceLT, Int.reduceEq, Int.reduceNe, Int.reduceAdd, Int.reduceSub, Int.reduceNeg, Int.toNat_natCast, Int.cast_ofNat_Int, Int.natCast_zero, Int.natCast_one, reduceCtorEq, reduceIte, Nat.lt_irrefl, and_self, not_false_eq_true, not_true_eq_false, sp]) ?_
    simp -implicitDefEqProofs only [go_sem, Nat.reduceEqDiff, Nat.reduceAdd, Nat.reduceSub, Nat.reduceMul, Nat.reduceLeDiff, Nat.reduceLT, Nat.reduceBEq, Int.reduceToNat, Int.reduceLE, Int.reduceLT, Int.reduceEq, Int.reduceNe, Int.reduceAdd, Int.reduceSub, Int.reduceNeg, Int.toNat_natCast, Int.cast_ofNat_Int, Int.natCast_zero, Int.natCast_one, reduceCtorEq, reduceIte, Nat.lt_irrefl, and_self, not_false_eq_true, not_true_eq_false, e1, e2]
    refine CallS.pureF heq (by simp -implicitDefEqProofs only [go_sem, Nat.reduceEqDiff, Nat.reduceAdd, Nat.reduceSub, Nat.reduceMul, Nat.reduceLeDiff, Nat.reduceLT, Nat.reduceBEq, Int.reduceToNat, Int.reduceLE, Int.reduceLT, Int.reduceEq, Int.reduceNe, Int.reduceAdd, Int.reduceSub, Int.reduceNeg, Int.toNat_natCast, Int.cast_ofNat_Int, Int.natCast_zero, Int.natCast_one, reduceCtorEq, reduceIte, Nat.lt_irrefl, and_self, not_false_eq_true, not_true_eq_false, sq]) ?_
    by_cases hl : p.each.length = q.each.length
    · have hl' : ((p.each.length : Int) = (q.each.length : Int)) = True := eq_true (by omega)
      simp -implicitDefEqProofs only [go_sem, Nat.reduceEqDiff, Nat.reduceAdd, Nat.reduceSub, Nat.reduceMul, Nat.reduceLeDiff, Nat.reduceLT, Nat.reduceBEq, Int.reduceToNat, Int.reduceLE, Int.reduceLT, Int.reduceEq, Int.reduceNe, Int.reduceAdd, Int.reduceSub, Int.reduceNeg, Int.toNat_natCast, Int.cast_ofNat_Int, Int.natCast_zero, Int.natCast_one, reduceCtorEq, reduceIte, Nat.lt_irrefl, and_self, not_false_eq_true, not_true_eq_false, la, lb, hl']
      refine Run.rounds (fun (k : Nat) => ⟨[(7, .int .i64 k), (6, .isl B), (5, .isl A)], [], 2⟩) (fun k => k ≤ p.each.length ∧ ∀ (i : Nat) x y, i < k → p.each[i]? = some x → q.each[i]? = some y → OneP x y) (fun k => p.each.length - k) 0 (by simp -implicitDefEqProofs only [go_sem, Nat.reduceEqDiff, Nat.reduceAdd, Nat.reduceSub, Nat.reduceMul, Nat.reduceLeDiff, Nat.reduceLT, Nat.reduceBEq, Int.reduceToNat, Int.reduceLE, Int.reduceLT, Int.reduceEq, Int.reduceNe, Int.reduceAdd, Int.reduceSub, Int.reduceNeg, Int.toNat_natCast, Int.cast_ofNat_Int, Int.natCast_zero, Int.natCast_one, reduceCtorEq, reduceIte, Nat.lt_irrefl, and_self, not_false_eq_true, not_true_eq_false]) ⟨Nat.zero_le _, fun i x y h => by omega⟩ ?_
      rintro k ⟨hk, hall⟩ ih
      refine Run.unf scriptingref33_Same_l0_eq (Run.go 100 ?_)
      by_cases hlt : k < p.each.length
      · have q0 : ((k : Int) < (p.each.length : Int)) = True := eq_true (by omega)
        have q1 : ((0 : Int) ≤ (k : Int)) = True := eq_true (by omega)
        have q2 : ((k : Int) < (q.each.length : Int)) = True := eq_true (by omega)
        obtain ⟨x, hx⟩ : ∃ x, p.each[k]? = some x := ⟨p.each[k], by simp [hlt]⟩
        obtain ⟨y, hy⟩ : ∃ y, q.each[k]? = some y := ⟨q.each[k]'(by omega), by simp [show k < q.each.length by omega]⟩
        have hxr := ra k x hx
        have hyr := rb k y hy
        have hone := one_pure x y (hp x (List.mem_of_getElem? hx))
        have hzk : ((k + 1 : Nat) : Int) = (k : Int) + 1 := by omega
        obtain ⟨m1, m2⟩ := fn_row11 x
        obtain ⟨n1, n2⟩ := fn_row11 y
        have sx := Fn.row_sub lost x
        have sy := Fn.row_sub lost y
        generalize x.row = xr at *
        generalize y.row = yr at *
        simp -implicitDefEqProofs only [go_sem, Nat.reduceEqDiff, Nat.reduceAdd, Nat.reduceSub, Nat.reduceMul, Nat.reduceLeDiff, Nat.reduceLT, Nat.reduceBEq, Int.reduceToNat, Int.reduceLE, Int.reduceLT, Int.reduceEq, Int.reduceNe, Int.reduceAdd, Int.reduceSub, Int.reduceNeg, Int.toNat_natCast, Int.cast_ofNat_Int, Int.natCast_zero, Int.natCast_one, reduceCtorEq, reduceIte, Nat.lt_irrefl, and_self, not_false_eq_true, not_true_eq_false, q0, q1, q2, la, lb, za, zb, hxr, hyr, m1, m2, n1, n2, Option.some.injEq, forall_eq']
        refine ⟨hlt, by omega, ?_⟩
        refine CallS.pureF hone (by simp -implicitDefEqProofs only [go_sem, Nat.reduceEqDiff, Nat.reduceAdd, Nat.reduceSub, Nat.reduceMul, Nat.reduceLeDiff, Nat.reduceLT, Nat.reduceBEq, Int.reduceToNat, Int.reduceLE, Int.reduceLT, Int.reduceEq, Int.reduceNe, Int.reduceAdd, Int.reduceSub, Int.reduceNeg, Int.toNat_natCast, Int.cast_ofNat_Int, Int.natCast_zero, Int.natCast_one, reduceCtorEq, reduceIte, Nat.lt_irrefl, and_self, not_false_eq_true, not_true_eq_false, sx, sy]) ?_
        by_cases hxy : OneP x y
        · simp -implicitDefEqProofs only [go_sem, Nat.reduceEqDiff, Nat.reduceAdd, Nat.reduceSub, Nat.reduceMul, Nat.reduceLeDiff, Nat.reduceLT, Nat.reduceBEq, Int.reduceToNat, Int.reduceLE, Int.reduceLT, Int.reduceEq, Int.reduceNe, Int.reduceAdd, Int.reduceSub, Int.reduceNeg, Int.toNat_natCast, Int.cast_ofNat_Int, Int.natCast_zero, Int.natCast_one, reduceCtorEq, reduceIte, Nat.lt_irrefl, and_self, not_false_eq_true, not_true_eq_false, oneB_yes hxy]
          refine ⟨by omega, ?_⟩
          refine ih _ (k + 1) ⟨by omega, fun i x' y' hi hx' hy' => ?_⟩ (by omega) (by simp -implicitDefEqProofs only [go_sem, Nat.reduceEqDiff, Nat.reduceAdd, Nat.reduceSub, Nat.reduceMul, Nat.reduceLeDiff, Nat.reduceLT, Nat.reduceBEq, Int.reduceToNat, Int.reduceLE, Int.reduceLT, Int.reduceEq, Int.reduceNe, Int.reduceAdd, Int.reduceSub, Int.reduceNeg, Int.toNat_natCast, Int.cast_ofNat_Int, Int.natCast_zero, Int.natCast_one, reduceCtorEq, reduceIte, Nat.lt_irrefl, and_self, not_false_eq_true, not_true_eq_false, hzk])
          by_cases e : i = k
          · subst e
            rw [hx] at hx'; rw [hy] at hy'
            cases hx'; cases hy'
            exact hxy
          · exact hall i x' y' (by omega) hx' hy'
        · have hns : sameB p q = false := sameB_no fun e => hxy (((same_iff p q).1 e).2 k x y hx hy)
          simp -implicitDefEqProofs only [go_sem, Nat.reduceEqDiff, Nat.reduceAdd, Nat.reduceSub, Nat.reduceMul, Nat.reduceLeDiff, Nat.reduceLT, Nat.reduceBEq, Int.reduceToNat, Int.reduceLE, Int.reduceLT, Int.reduceEq, Int.reduceNe, Int.reduceAdd, Int.reduceSub, Int.reduceNeg, Int.toNat_natCast, Int.cast_ofNat_Int, Int.natCast_zero, Int.natCast_one, reduceCtorEq, reduceIte, Nat.lt_irrefl, and_self, not_false_eq_true, not_true_eq_false, oneB_no hxy, hns]
      · have hfin : p = q := (same_iff p q).2 ⟨hl, fun i x y hx hy => hall i x y (by have := (List.getElem?_eq_some_iff.1 hx).1; omega) hx hy⟩
        have e : k = p.each.length := by omega
        subst e
        simp -implicitDefEqProofs only [go_sem, Nat.reduceEqDiff, Nat.reduceAdd, Nat.reduceSub, Nat.reduceMul, Nat.reduceLeDiff, Nat.reduceLT, Nat.reduceBEq, Int.reduceToNat, Int.reduceLE, Int.reduceLT, Int.reduceEq, Int.reduceNe, Int.reduceAdd, Int.reduceSub, Int.reduceNeg, Int.toNat_natCast, Int.cast_ofNat_Int, Int.natCast_zero, Int.natCast_one, reduceCtorEq, reduceIte, Nat.lt_irrefl, and_self, not_false_eq_true, not_true_eq_false, la, Int.lt_irrefl, sameB_yes hfin]
    · have hl' : ((p.each.length : Int) = (q.each.length : Int)) = False := eq_false (by omega)
      have hns : sameB p q = false := sameB_no fun e => hl (by rw [e])
      simp -implicitDefEqProofs only [go_sem, Nat.reduceEqDiff, Nat.reduceAdd, Nat.reduceSub, Nat.reduceMul, Nat.reduceLeDiff, Nat.reduceLT, Nat.reduceBEq, Int.reduceToNat, Int.reduceLE, Int.reduceLT, Int.reduceEq, Int.reduceNe, Int.reduceAdd, Int.reduceSub, Int.reduceNeg, Int.toNat_natCast, Int.cast_ofNat_Int, Int.natCast_zero, Int.natCast_one, reduceCtorEq, reduceIte, Nat.lt_irrefl, and_self, not_false_eq_true, not_true_eq_false, la, lb, hl', hns]
end Go.Proofs.YtmhbbaheponmoaaDoor
