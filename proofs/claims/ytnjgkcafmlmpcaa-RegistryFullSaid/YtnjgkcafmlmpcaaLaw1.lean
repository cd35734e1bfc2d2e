/-
  Registry: the chapter's small case; references are given out again in the stated order. No condition.
-/
import Derived.Test.YtnjgkcafmlmpcaaReg
import Derived.Test.YtnjgkcafmlmpcaaArg
set_option linter.unusedVariables false
set_option linter.unusedSimpArgs false
set_option maxRecDepth 100000
set_option maxHeartbeats 0
namespace Go.Proofs.Ytnjgkcafmlmpcaa
open Go.Abs
attribute [local irreducible] CallS Run
-- EV: RegH, nO, nM, nV, nF, nL, Val.v, Val.row, irow

def tv : Val := ⟨4, 0, 0, [], 7⟩

theorem lives_pure : Pure Try.prog 11 [] (.bool true) := by
  refine Pure.of 0 (CallS.enter scriptinglaw18_lives_ok (Nat.le_of_ble_eq_true rfl) (Run.go 100 ?_))
  have v0 : Reg.OK ⟨[], [], []⟩ := .new
  have e1 : Reg.ref ⟨[], [], []⟩ tv = (1, 0, ⟨[tv], [], []⟩) := rfl
  have e2 : Reg.ref ⟨[tv], [], []⟩ tv = (2, 0, ⟨[tv, tv], [], []⟩) := rfl
  have e3 : Reg.ref ⟨[tv, tv], [], []⟩ tv = (3, 0, ⟨[tv, tv, tv], [], []⟩) := rfl
  have e4 : Reg.unref ⟨[tv, tv, tv], [], []⟩ 1 = (0, ⟨[Val.none, tv, tv], [1], []⟩) := rfl
  have e5 : Reg.unref ⟨[Val.none, tv, tv], [1], []⟩ 2 = (0, ⟨[Val.none, Val.none, tv], [1, 2], []⟩) := rfl
  have e6 : Reg.ref ⟨[Val.none, Val.none, tv], [1, 2], []⟩ tv = (2, 0, ⟨[Val.none, tv, tv], [1], []⟩) := rfl
  have e7 : Reg.ref ⟨[Val.none, tv, tv], [1], []⟩ tv = (1, 0, ⟨[tv, tv, tv], [], []⟩) := rfl
  have v1 := v0.ref tv; rw [e1] at v1
  have v2 := v1.ref tv; rw [e2] at v2
  have v3 := v2.ref tv; rw [e3] at v3
  have v4 := v3.unref 1; rw [e4] at v4
  have v5 := v4.unref 2; rw [e5] at v5
  have v6 := v5.ref tv; rw [e6] at v6
  have v7 := v6.ref tv; rw [e7] at v7
  simp -implicitDefEqProofs only [go_sem, Nat.reduceEqDiff, Nat.reduceAdd, Nat.reduceSub, Nat.reduceMul, Nat.reduceLeDiff, Nat.reduceLT, Nat.reduceBEq, Int.reduceToNat, Int.reduceLE, Int.reduceLT, Int.reduceEq, Int.reduceNe, Int.reduceAdd, Int.reduceSub, Int.reduceNeg, Int.toNat_natCast, reduceCtorEq, reduceIte, Nat.lt_irrefl, and_self, not_false_eq_true, not_true_eq_false, RegH, nO, nM, nV, nF, nL, Val.v, Val.row, irow, initSl]
  refine (new_c _).mono ?_
  rintro r h' n' ⟨so, sm, sv, sf, rfl, rfl⟩
  simp -implicitDefEqProofs only [go_sem, Nat.reduceEqDiff, Nat.reduceAdd, Nat.reduceSub, Nat.reduceMul, Nat.reduceLeDiff, Nat.reduceLT, Nat.reduceBEq, Int.reduceToNat, Int.reduceLE, Int.reduceLT, Int.reduceEq, Int.reduceNe, Int.reduceAdd, Int.reduceSub, Int.reduceNeg, Int.toNat_natCast, reduceCtorEq, reduceIte, Nat.lt_irrefl, and_self, not_false_eq_true, not_true_eq_false, RegH, nO, nM, nV, nF, nL, Val.v, Val.row, irow]
  refine CallS.at [1, 2, 3, 4] [0] (ref_c ⟨[], [], []⟩ so sm sv sf _ tv v0) rfl rfl ?_
  rintro r h' n' hn ⟨sv, sf, rfl, rfl⟩
  simp -implicitDefEqProofs only [go_sem, Nat.reduceEqDiff, Nat.reduceAdd, Nat.reduceSub, Nat.reduceMul, Nat.reduceLeDiff, Nat.reduceLT, Nat.reduceBEq, Int.reduceToNat, Int.reduceLE, Int.reduceLT, Int.reduceEq, Int.reduceNe, Int.reduceAdd, Int.reduceSub, Int.reduceNeg, Int.toNat_natCast, reduceCtorEq, reduceIte, Nat.lt_irrefl, and_self, not_false_eq_true, not_true_eq_false, RegH, nO, nM, nV, nF, nL, Val.v, Val.row, irow, e1]
  refine CallS.at [0, 1, 2, 3] [4] (ref_c ⟨[tv], [], []⟩ so sm sv sf _ tv v1) rfl rfl ?_
  rintro r h' n' hn ⟨sv, sf, rfl, rfl⟩
  simp -implicitDefEqProofs only [go_sem, Nat.reduceEqDiff, Nat.reduceAdd, Nat.reduceSub, Nat.reduceMul, Nat.reduceLeDiff, Nat.reduceLT, Nat.reduceBEq, Int.reduceToNat, Int.reduceLE, Int.reduceLT, Int.reduceEq, Int.reduceNe, Int.reduceAdd, Int.reduceSub, Int.reduceNeg, Int.toNat_natCast, reduceCtorEq, reduceIte, Nat.lt_irrefl, and_self, not_false_eq_true, not_true_eq_false, RegH, nO, nM, nV, nF, nL, Val.v, Val.row, irow, e2]
  refine CallS.at [0, 1, 2, 3] [4] (ref_c ⟨[tv, tv], [], []⟩ so sm sv sf _ tv v2) rfl rfl ?_
  rintro r h' n' hn ⟨sv, sf, rfl, rfl⟩
  simp -implicitDefEqProofs only [go_sem, Nat.reduceEqDiff, Nat.reduceAdd, Nat.reduceSub, Nat.reduceMul, Nat.reduceLeDiff, Nat.reduceLT, Nat.reduceBEq, Int.reduceToNat, Int.reduceLE, Int.reduceLT, Int.reduceEq, Int.reduceNe, Int.reduceAdd, Int.reduceSub, Int.reduceNeg, Int.toNat_natCast, reduceCtorEq, reduceIte, Nat.lt_irrefl, and_self, not_false_eq_true, not_true_eq_false, RegH, nO, nM, nV, nF, nL, Val.v, Val.row, irow, e3]
  refine CallS.at [0, 1, 2, 3] [4] (unref_c ⟨[tv, tv, tv], [], []⟩ so sm sv sf _ 1 v3) rfl rfl ?_
  rintro r h' n' hn ⟨sv, sf, rfl, rfl⟩
  simp -implicitDefEqProofs only [go_sem, Nat.reduceEqDiff, Nat.reduceAdd, Nat.reduceSub, Nat.reduceMul, Nat.reduceLeDiff, Nat.reduceLT, Nat.reduceBEq, Int.reduceToNat, Int.reduceLE, Int.reduceLT, Int.reduceEq, Int.reduceNe, Int.reduceAdd, Int.reduceSub, Int.reduceNeg, Int.toNat_natCast, reduceCtorEq, reduceIte, Nat.lt_irrefl, and_self, not_false_eq_true, not_true_eq_false, RegH, nO, nM, nV, nF, nL, Val.v, Val.row, irow, e4]
  refine CallS.at [0, 1, 2, 3] [4] (unref_c ⟨[Val.none, tv, tv], [1], []⟩ so sm sv sf _ 2 v4) rfl rfl ?_
  rintro r h' n' hn ⟨sv, sf, rfl, rfl⟩
  simp -implicitDefEqProofs only [go_sem, Nat.reduceEqDiff, Nat.reduceAdd, Nat.reduceSub, Nat.reduceMul, Nat.reduceLeDiff, Nat.reduceLT, Nat.reduceBEq, Int.reduceToNat, Int.reduceLE, Int.reduceLT, Int.reduceEq, Int.reduceNe, Int.reduceAdd, Int.reduceSub, Int.reduceNeg, Int.toNat_natCast, reduceCtorEq, reduceIte, Nat.lt_irrefl, and_self, not_false_eq_true, not_true_eq_false, RegH, nO, nM, nV, nF, nL, Val.v, Val.row, irow, e5]
  refine CallS.at [0, 1, 2, 3] [4] (ref_c ⟨[Val.none, Val.none, tv], [1, 2], []⟩ so sm sv sf _ tv v5) rfl rfl ?_
  rintro r h' n' hn ⟨sv, sf, rfl, rfl⟩
  simp -implicitDefEqProofs only [go_sem, Nat.reduceEqDiff, Nat.reduceAdd, Nat.reduceSub, Nat.reduceMul, Nat.reduceLeDiff, Nat.reduceLT, Nat.reduceBEq, Int.reduceToNat, Int.reduceLE, Int.reduceLT, Int.reduceEq, Int.reduceNe, Int.reduceAdd, Int.reduceSub, Int.reduceNeg, Int.toNat_natCast, reduceCtorEq, reduceIte, Nat.lt_irrefl, and_self, not_false_eq_true, not_true_eq_false, RegH, nO, nM, nV, nF, nL, Val.v, Val.row, irow, e6]
  refine CallS.at [0, 1, 2, 3] [4] (ref_c ⟨[Val.none, tv, tv], [1], []⟩ so sm sv sf _ tv v6) rfl rfl ?_
  rintro r h' n' hn ⟨sv, sf, rfl, rfl⟩
  simp -implicitDefEqProofs only [go_sem, Nat.reduceEqDiff, Nat.reduceAdd, Nat.reduceSub, Nat.reduceMul, Nat.reduceLeDiff, Nat.reduceLT, Nat.reduceBEq, Int.reduceToNat, Int.reduceLE, Int.reduceLT, Int.reduceEq, Int.reduceNe, Int.reduceAdd, Int.reduceSub, Int.reduceNeg, Int.toNat_natCast, reduceCtorEq, reduceIte, Nat.lt_irrefl, and_self, not_false_eq_true, not_true_eq_false, RegH, nO, nM, nV, nF, nL, Val.v, Val.row, irow, e7]
  refine CallS.at [0, 1, 2, 3] [4] (len_c ⟨[tv, tv, tv], [], []⟩ so sm sv sf _ v7) rfl rfl ?_
  rintro r h' n' hn ⟨rfl, rfl⟩
  simp -implicitDefEqProofs only [go_sem, Nat.reduceEqDiff, Nat.reduceAdd, Nat.reduceSub, Nat.reduceMul, Nat.reduceLeDiff, Nat.reduceLT, Nat.reduceBEq, Int.reduceToNat, Int.reduceLE, Int.reduceLT, Int.reduceEq, Int.reduceNe, Int.reduceAdd, Int.reduceSub, Int.reduceNeg, Int.toNat_natCast, reduceCtorEq, reduceIte, Nat.lt_irrefl, and_self, not_false_eq_true, not_true_eq_false, RegH, nO, nM, nV, nF, nL, Val.v, Val.row, irow, Reg.len]
  rfl

def brow (z : Int) : List V := [.int .u8 z]
def bool1 (b : Bool) : List V := [.bool b]
def dv : Val := ⟨8, 0, 0, [], 5⟩

theorem ref_new {i : Nat} (hi : i < 1000) : Reg.ref ⟨List.replicate i dv, [], []⟩ dv = (((i + 1 : Nat) : Int), 0, ⟨List.replicate (i + 1) dv, [], []⟩) := by
  rw [Reg.ref4 (by decide) (by decide) (by simp; omega) rfl]
  simp [List.replicate_succ']

theorem used_unref {R : Reg} {z : Int} (hu : R.used z = true) (fr : List Int) (y : Int) : Reg.used ⟨R.vals.set (z - 1).toNat Val.none, fr, R.names⟩ y = (R.used y && decide (¬ y = z)) := by
  obtain ⟨h1, h2, v, h3, h4⟩ := Reg.used_spec hu
  by_cases hy : 1 ≤ y ∧ y ≤ R.vals.length
  · by_cases hyz : y = z
    · subst hyz
      have : (R.vals.set (y - 1).toNat Val.none)[(y - 1).toNat]? = some Val.none := List.getElem?_set_self (by omega)
      simp only [Reg.used, List.length_set, List.getD_eq_getElem?_getD, this, Option.getD_some]
      simp [Val.none]
    · have : (R.vals.set (z - 1).toNat Val.none)[(y - 1).toNat]? = R.vals[(y - 1).toNat]? := List.getElem?_set_ne (by omega)
      simp only [Reg.used, List.length_set, List.getD_eq_getElem?_getD, this]
      simp [hyz]
  · have e1 : Reg.used ⟨R.vals.set (z - 1).toNat Val.none, fr, R.names⟩ y = false := by simp only [Reg.used, List.length_set, decide_eq_false hy, Bool.false_and]
    have e2 : R.used y = false := by simp only [Reg.used, decide_eq_false hy, Bool.false_and]
    rw [e1, e2]; rfl

theorem reuses_pure (nn : Int) (drop : List Int) (h0 : 0 ≤ nn) (h1 : nn ≤ 255) (hd : ∀ z ∈ drop, 0 ≤ z ∧ z ≤ 255) :
    Pure Try.prog 3 [.int .u8 nn, .isl (drop.map brow)] (.bool true) := by
  refine Pure.of 0 (CallS.enter scriptinglaw18_RegistryReuses_ok (Nat.le_of_ble_eq_true rfl) (Run.go 100 ?_))
  simp -implicitDefEqProofs only [go_sem, Nat.reduceEqDiff, Nat.reduceAdd, Nat.reduceSub, Nat.reduceMul, Nat.reduceLeDiff, Nat.reduceLT, Nat.reduceBEq, Int.reduceToNat, Int.reduceLE, Int.reduceLT, Int.reduceEq, Int.reduceNe, Int.reduceAdd, Int.reduceSub, Int.reduceNeg, Int.toNat_natCast, reduceCtorEq, reduceIte, Nat.lt_irrefl, and_self, not_false_eq_true, not_true_eq_false, RegH, nO, nM, nV, nF, nL, Val.v, Val.row, irow, initSl]
  refine (new_c _).mono ?_
  rintro r h' n' ⟨so, sm, sv, sf, rfl, rfl⟩
  simp -implicitDefEqProofs only [go_sem, Nat.reduceEqDiff, Nat.reduceAdd, Nat.reduceSub, Nat.reduceMul, Nat.reduceLeDiff, Nat.reduceLT, Nat.reduceBEq, Int.reduceToNat, Int.reduceLE, Int.reduceLT, Int.reduceEq, Int.reduceNe, Int.reduceAdd, Int.reduceSub, Int.reduceNeg, Int.toNat_natCast, reduceCtorEq, reduceIte, Nat.lt_irrefl, and_self, not_false_eq_true, not_true_eq_false, RegH, nO, nM, nV, nF, nL, Val.v, Val.row, irow]
  refine ⟨fun c1 => ?_, fun c1 => ?_⟩
  · refine CallS.pureF lives_pure (by simp -implicitDefEqProofs only [go_sem, Nat.reduceEqDiff, Nat.reduceAdd, Nat.reduceSub, Nat.reduceMul, Nat.reduceLeDiff, Nat.reduceLT, Nat.reduceBEq, Int.reduceToNat, Int.reduceLE, Int.reduceLT, Int.reduceEq, Int.reduceNe, Int.reduceAdd, Int.reduceSub, Int.reduceNeg, Int.toNat_natCast, reduceCtorEq, reduceIte, Nat.lt_irrefl, and_self, not_false_eq_true, not_true_eq_false, RegH, nO, nM, nV, nF, nL, Val.v, Val.row, irow]) ?_
    simp -implicitDefEqProofs only [go_sem, Nat.reduceEqDiff, Nat.reduceAdd, Nat.reduceSub, Nat.reduceMul, Nat.reduceLeDiff, Nat.reduceLT, Nat.reduceBEq, Int.reduceToNat, Int.reduceLE, Int.reduceLT, Int.reduceEq, Int.reduceNe, Int.reduceAdd, Int.reduceSub, Int.reduceNeg, Int.toNat_natCast, reduceCtorEq, reduceIte, Nat.lt_irrefl, and_self, not_false_eq_true, not_true_eq_false, RegH, nO, nM, nV, nF, nL, Val.v, Val.row, irow]
  have hw : IntKind.i64.wrap nn = nn := by simp [IntKind.wrap, IntKind.bits, IntKind.signed]; omega
  rw [hw]
  generalize hmost : 1 + nn.tmod 50 = most
  have hm1 : 1 ≤ most := by have := Int.tmod_nonneg 50 h0; omega
  have hm2 : most ≤ 50 := by have := Int.tmod_lt_of_pos nn (show (0 : Int) < 50 by omega); omega
  refine ⟨by omega, by omega, by omega, by omega, ?_⟩
  obtain ⟨mm, rfl⟩ := Int.eq_ofNat_of_zero_le (show 0 ≤ most by omega)
  have hlen : ((mm : Int) + 1).toNat = mm + 1 := by omega
  rw [hlen]
  refine Run.rounds (fun (x : Nat × List Bool × Nat × Nat × Nat) => ⟨[(9, .int .i64 ((x.1 + 1 : Nat) : Int)), (8, .sl 30041 (n' + 1) 0 (mm + 1)), (7, .int .i64 mm), (6, .ptr 30006 n' 0 0), (5, .ptr nO so 0 0), (1, .isl (drop.map brow))],
      RegH so sm x.2.2.1 x.2.2.2.1 ⟨List.replicate x.1 dv, [], []⟩ ++ [(30041, n' + 1, .rows 1 (x.2.1.map bool1)), (30006, n', .rows 5 [dv.row])], x.2.2.2.2⟩)
    (fun x => x.1 ≤ mm ∧ x.2.1.length = mm + 1 ∧ ∀ r, 1 ≤ r → r ≤ mm → x.2.1[r]? = some (decide (r ≤ x.1))) (fun x => mm - x.1) (0, List.replicate (mm + 1) false, sv, sf, n' + 1 + 1)
    (by simp -implicitDefEqProofs only [go_sem, Nat.reduceEqDiff, Nat.reduceAdd, Nat.reduceSub, Nat.reduceMul, Nat.reduceLeDiff, Nat.reduceLT, Nat.reduceBEq, Int.reduceToNat, Int.reduceLE, Int.reduceLT, Int.reduceEq, Int.reduceNe, Int.reduceAdd, Int.reduceSub, Int.reduceNeg, Int.toNat_natCast, reduceCtorEq, reduceIte, Nat.lt_irrefl, and_self, not_false_eq_true, not_true_eq_false, RegH, nO, nM, nV, nF, nL, Val.v, Val.row, irow, dv]; simp [bool1, List.map_replicate]) ⟨Nat.zero_le _, by simp, fun r h1 h2 => by rw [List.getElem?_replicate, if_pos (by omega)]; simp; omega⟩ ?_
  rintro ⟨i, us, sv, sf, n⟩ ⟨hi, hul, hus⟩ ih
  refine Run.unf scriptinglaw18_RegistryReuses_l0_eq (Run.go 100 ?_)
  simp -implicitDefEqProofs only [go_sem, Nat.reduceEqDiff, Nat.reduceAdd, Nat.reduceSub, Nat.reduceMul, Nat.reduceLeDiff, Nat.reduceLT, Nat.reduceBEq, Int.reduceToNat, Int.reduceLE, Int.reduceLT, Int.reduceEq, Int.reduceNe, Int.reduceAdd, Int.reduceSub, Int.reduceNeg, Int.toNat_natCast, reduceCtorEq, reduceIte, Nat.lt_irrefl, and_self, not_false_eq_true, not_true_eq_false, RegH, nO, nM, nV, nF, nL, Val.v, Val.row, irow, dv]
  refine ⟨fun c2 => ?_, fun c2 => ?_⟩
  · refine CallS.at [0, 1, 2, 3] [4, 5] (ref_c ⟨List.replicate i dv, [], []⟩ so sm sv sf _ dv ?_) (by simp -implicitDefEqProofs only [go_sem, Nat.reduceEqDiff, Nat.reduceAdd, Nat.reduceSub, Nat.reduceMul, Nat.reduceLeDiff, Nat.reduceLT, Nat.reduceBEq, Int.reduceToNat, Int.reduceLE, Int.reduceLT, Int.reduceEq, Int.reduceNe, Int.reduceAdd, Int.reduceSub, Int.reduceNeg, Int.toNat_natCast, reduceCtorEq, reduceIte, Nat.lt_irrefl, and_self, not_false_eq_true, not_true_eq_false, RegH, nO, nM, nV, nF, nL, Val.v, Val.row, irow, dv]) rfl ?_
    · exact ⟨by simp; omega, by simp, by simp, by simp, by simp⟩
    rintro r h' n2 hn ⟨sv', sf', rfl, rfl⟩
    rw [ref_new (by omega)]
    simp -implicitDefEqProofs only [go_sem, Nat.reduceEqDiff, Nat.reduceAdd, Nat.reduceSub, Nat.reduceMul, Nat.reduceLeDiff, Nat.reduceLT, Nat.reduceBEq, Int.reduceToNat, Int.reduceLE, Int.reduceLT, Int.reduceEq, Int.reduceNe, Int.reduceAdd, Int.reduceSub, Int.reduceNeg, Int.toNat_natCast, reduceCtorEq, reduceIte, Nat.lt_irrefl, and_self, not_false_eq_true, not_true_eq_false, RegH, nO, nM, nV, nF, nL, Val.v, Val.row, irow, bool1]
    have hul : us.length = mm + 1 := hul
    refine ⟨by omega, by omega, by omega, fun x hx => ⟨by omega, ?_⟩⟩
    refine ih _ (i + 1, us.set (i + 1) true, sv', sf', n2) ⟨by show i + 1 ≤ mm; omega, by simpa using hul, fun r h1 h2 => ?_⟩ (by show mm - (i + 1) < mm - i; omega) (by simp -implicitDefEqProofs only [go_sem, Nat.reduceEqDiff, Nat.reduceAdd, Nat.reduceSub, Nat.reduceMul, Nat.reduceLeDiff, Nat.reduceLT, Nat.reduceBEq, Int.reduceToNat, Int.reduceLE, Int.reduceLT, Int.reduceEq, Int.reduceNe, Int.reduceAdd, Int.reduceSub, Int.reduceNeg, Int.toNat_natCast, reduceCtorEq, reduceIte, Nat.lt_irrefl, and_self, not_false_eq_true, not_true_eq_false, RegH, nO, nM, nV, nF, nL, Val.v, Val.row, irow, dv]; simp [bool1, List.map_set])
    have := hus r h1 h2
    simp only at this ⊢
    by_cases hr : i + 1 = r
    · subst hr; rw [List.getElem?_set_self (by omega)]; simp
    · rw [List.getElem?_set_ne hr, this]; congr 2; simp; omega
  have hul : us.length = mm + 1 := hul
  have hi : i ≤ mm := hi
  have him : i = mm := by omega
  subst him
  have hus : ∀ r, 1 ≤ r → r ≤ i → us[r]? = some true := fun r h1 h2 => by have := hus r h1 h2; simpa [h2] using this
  clear ih
  have rok : Reg.OK ⟨List.replicate i dv, [], []⟩ := ⟨by simp; omega, by simp, by simp, by simp, by simp⟩
  refine Run.roundsK (fun (x : Nat × Reg × List Bool × Nat × Nat × Nat × Nat) => ⟨[(13, .int .i64 (x.1 : Int)), (12, .sl 30094 x.2.2.2.2.2.1 0 x.2.1.free.length), (8, .sl 30041 (n' + 1) 0 (i + 1)), (7, .int .i64 i), (6, .ptr 30006 n' 0 0), (5, .ptr nO so 0 0), (1, .isl (drop.map brow))],
      RegH so sm x.2.2.2.1 x.2.2.2.2.1 x.2.1 ++ [(30041, n' + 1, .rows 1 (x.2.2.1.map bool1)), (30006, n', .rows 5 [dv.row]), (30094, x.2.2.2.2.2.1, .rows 1 (x.2.1.free.map irow))], x.2.2.2.2.2.2⟩)
    (fun x => x.1 ≤ drop.length ∧ x.2.1.OK ∧ x.2.1.names = [] ∧ x.2.1.vals.length = i ∧ x.2.2.1.length = i + 1 ∧ ∀ r : Nat, 1 ≤ r → r ≤ i → x.2.2.1[r]? = some (x.2.1.used r)) (fun x => drop.length - x.1) (0, ⟨List.replicate i dv, [], []⟩, us, sv, sf, n, n + 1)
    ?_ ⟨Nat.zero_le _, rok, rfl, by simp, hul, fun r h1 h2 => ?_⟩ ?_
  · refine .trans (.fresh 30094 1 _ _ _) (.turn id ?_ ?_)
    · exact ⟨.refl _, .nils, .refl _, .refl _, .refl _, .refl _, .refl _, trivial⟩
    · exact .at 1 rfl rfl (.of_eq (by simp)) (.at 2 rfl rfl (.refl _) (.at 3 rfl rfl (.refl _) (.at 4 rfl rfl (.refl _) (.at 5 rfl rfl (.refl _) (.at 6 rfl rfl (.refl _) (.at 0 rfl rfl (.refl _) trivial))))))
  · rw [hus r h1 h2]
    have hlt : ((r : Int) - 1).toNat < i := by omega
    simp only [Reg.used, List.length_replicate, List.getD_eq_getElem?_getD, List.getElem?_replicate, if_pos hlt, Option.getD_some]
    have h3 : (1 : Int) ≤ r ∧ (r : Int) ≤ i := by omega
    simp [h3, dv]
  rintro ⟨j, R, us, sv, sf, sq, n⟩ ⟨hj, hok, hnm, hvl, hul, hus⟩ ih
  dsimp only at hj hok hnm hvl hul hus ih ⊢
  refine Run.unf scriptinglaw18_RegistryReuses_l1_eq (Run.go 100 ?_)
  simp -implicitDefEqProofs only [go_sem, Nat.reduceEqDiff, Nat.reduceAdd, Nat.reduceSub, Nat.reduceMul, Nat.reduceLeDiff, Nat.reduceLT, Nat.reduceBEq, Int.reduceToNat, Int.reduceLE, Int.reduceLT, Int.reduceEq, Int.reduceNe, Int.reduceAdd, Int.reduceSub, Int.reduceNeg, Int.toNat_natCast, reduceCtorEq, reduceIte, Nat.lt_irrefl, and_self, not_false_eq_true, not_true_eq_false, RegH, nO, nM, nV, nF, nL, Val.v, Val.row, irow, brow, bool1]
  refine ⟨fun c3 => ⟨by omega, by omega, ?_, by omega, fun b hb => ?_⟩, fun c3 => ?_⟩
  · intro r hr
    obtain ⟨z, _, rfl⟩ := List.mem_map.1 hr
    rfl
  · have hbr := hd b (List.mem_of_getElem? hb)
    have hwb : IntKind.i64.wrap b = b := by simp [IntKind.wrap, IntKind.bits, IntKind.signed]; omega
    rw [hwb]
    have q1 := Int.tmod_nonneg (i : Int) hbr.1
    have q2 := Int.tmod_lt_of_pos b (show (0 : Int) < i by omega)
    obtain ⟨z, hz⟩ := Int.eq_ofNat_of_zero_le (show 0 ≤ 1 + b.tmod i by omega)
    refine ⟨by omega, by omega, ?_⟩
    rw [hz]
    refine CallS.at [0, 1, 2, 3] [4, 5, 6] (unref_c R so sm sv sf _ z hok) rfl rfl ?_
    rintro r h' n2 hn ⟨sv', sf', rfl, rfl⟩
    have hz1 : 1 ≤ z := by omega
    have hz2 : z ≤ i := by omega
    have huz := hus z hz1 hz2
    have hok2 := hok.unref z
    have hne : ¬ (z : Int) = 0 := by omega
    cases hu : R.used z with
    | true =>
      have he : R.unref z = (0, { R with vals := R.vals.set ((z : Int) - 1).toNat Val.none, free := R.free ++ [(z : Int)] }) := by rw [Reg.unref, if_neg hne, hu]; rfl
      rw [he] at hok2 ⊢
      rw [hu] at huz
      simp -implicitDefEqProofs only [go_sem, Nat.reduceEqDiff, Nat.reduceAdd, Nat.reduceSub, Nat.reduceMul, Nat.reduceLeDiff, Nat.reduceLT, Nat.reduceBEq, Int.reduceToNat, Int.reduceLE, Int.reduceLT, Int.reduceEq, Int.reduceNe, Int.reduceAdd, Int.reduceSub, Int.reduceNeg, Int.toNat_natCast, reduceCtorEq, reduceIte, Nat.lt_irrefl, and_self, not_false_eq_true, not_true_eq_false, RegH, nO, nM, nV, nF, nL, Val.v, Val.row, irow, bool1, atRow_is huz]
      have hfl := hok.free
      refine ⟨by omega, by omega, by omega, by omega, by omega, by omega, by omega, by omega, ?_⟩
      refine ih _ (j + 1, { R with vals := R.vals.set ((z : Int) - 1).toNat Val.none, free := R.free ++ [(z : Int)] }, us.set z false, sv', sf', n2, n2 + 1) ⟨by omega, hok2, hnm, by simpa using hvl, by simpa using hul, fun r h1 h2 => ?_⟩ (by dsimp only; omega) (Weak.wk (by simp -implicitDefEqProofs only [go_sem, Nat.reduceEqDiff, Nat.reduceAdd, Nat.reduceSub, Nat.reduceMul, Nat.reduceLeDiff, Nat.reduceLT, Nat.reduceBEq, Int.reduceToNat, Int.reduceLE, Int.reduceLT, Int.reduceEq, Int.reduceNe, Int.reduceAdd, Int.reduceSub, Int.reduceNeg, Int.toNat_natCast, reduceCtorEq, reduceIte, Nat.lt_irrefl, and_self, not_false_eq_true, not_true_eq_false, RegH, nO, nM, nV, nF, nL, Val.v, Val.row, irow]; simp [bool1, irow, List.map_set]))
      dsimp only
      rw [used_unref hu]
      by_cases hr : z = r
      · subst hr; rw [List.getElem?_set_self (by omega)]; simp
      · rw [List.getElem?_set_ne hr, hus r h1 h2]; simp; omega
    | false =>
      have he : R.unref z = (6, R) := by rw [Reg.unref, if_neg hne, hu]; rfl
      rw [he] at hok2 ⊢
      rw [hu] at huz
      simp -implicitDefEqProofs only [go_sem, Nat.reduceEqDiff, Nat.reduceAdd, Nat.reduceSub, Nat.reduceMul, Nat.reduceLeDiff, Nat.reduceLT, Nat.reduceBEq, Int.reduceToNat, Int.reduceLE, Int.reduceLT, Int.reduceEq, Int.reduceNe, Int.reduceAdd, Int.reduceSub, Int.reduceNeg, Int.toNat_natCast, reduceCtorEq, reduceIte, Nat.lt_irrefl, and_self, not_false_eq_true, not_true_eq_false, RegH, nO, nM, nV, nF, nL, Val.v, Val.row, irow, bool1, atRow_is huz]
      refine ⟨by omega, by omega, by omega, by omega, by omega, by omega, by omega, ?_⟩
      refine ih _ (j + 1, R, us.set z false, sv', sf', sq, n2) ⟨by omega, hok, hnm, hvl, by simpa using hul, fun r h1 h2 => ?_⟩ (by dsimp only; omega) (Weak.wk (by simp -implicitDefEqProofs only [go_sem, Nat.reduceEqDiff, Nat.reduceAdd, Nat.reduceSub, Nat.reduceMul, Nat.reduceLeDiff, Nat.reduceLT, Nat.reduceBEq, Int.reduceToNat, Int.reduceLE, Int.reduceLT, Int.reduceEq, Int.reduceNe, Int.reduceAdd, Int.reduceSub, Int.reduceNeg, Int.toNat_natCast, reduceCtorEq, reduceIte, Nat.lt_irrefl, and_self, not_false_eq_true, not_true_eq_false, RegH, nO, nM, nV, nF, nL, Val.v, Val.row, irow]; simp [bool1, List.map_set]))
      dsimp only
      by_cases hr : z = r
      · subst hr; rw [List.getElem?_set_self (by omega), hu]
      · rw [List.getElem?_set_ne hr, hus r h1 h2]
  clear ih hus hul
  have hfl := hok.free
  have hvB := hok.vals
  generalize hF : R.free = F at *
  refine ⟨by omega, ?_⟩
  refine Run.rounds (fun (x : Nat × Reg × Nat × Nat × Nat) => ⟨[(16, .int .i64 ((x.1 : Int) - 1)), (12, .sl 30094 sq 0 F.length), (7, .int .i64 i), (6, .ptr 30006 n' 0 0), (5, .ptr nO so 0 0)],
      RegH so sm x.2.2.1 x.2.2.2.1 x.2.1 ++ [(30006, n', .rows 5 [dv.row]), (30094, sq, .rows 1 (F.map irow))], x.2.2.2.2⟩)
    (fun x => x.1 ≤ F.length ∧ x.2.1.OK ∧ x.2.1.names = [] ∧ x.2.1.vals.length = i ∧ x.2.1.free = F.take x.1) (fun x => x.1) (F.length, R, sv, sf, n) (by simp -implicitDefEqProofs only [go_sem, Nat.reduceEqDiff, Nat.reduceAdd, Nat.reduceSub, Nat.reduceMul, Nat.reduceLeDiff, Nat.reduceLT, Nat.reduceBEq, Int.reduceToNat, Int.reduceLE, Int.reduceLT, Int.reduceEq, Int.reduceNe, Int.reduceAdd, Int.reduceSub, Int.reduceNeg, Int.toNat_natCast, reduceCtorEq, reduceIte, Nat.lt_irrefl, and_self, not_false_eq_true, not_true_eq_false, RegH, nO, nM, nV, nF, nL, Val.v, Val.row, irow, hF]) ⟨Nat.le_refl _, hok, hnm, hvl, by simp [hF]⟩ ?_
  rintro ⟨q, R, sv, sf, n⟩ ⟨hq, hok, hnm, hvl, hfr⟩ ih
  dsimp only at hq hok hnm hvl hfr ih ⊢
  refine Run.unf scriptinglaw18_RegistryReuses_l2_eq (Run.go 100 ?_)
  simp -implicitDefEqProofs only [go_sem, Nat.reduceEqDiff, Nat.reduceAdd, Nat.reduceSub, Nat.reduceMul, Nat.reduceLeDiff, Nat.reduceLT, Nat.reduceBEq, Int.reduceToNat, Int.reduceLE, Int.reduceLT, Int.reduceEq, Int.reduceNe, Int.reduceAdd, Int.reduceSub, Int.reduceNeg, Int.toNat_natCast, reduceCtorEq, reduceIte, Nat.lt_irrefl, and_self, not_false_eq_true, not_true_eq_false, RegH, nO, nM, nV, nF, nL, Val.v, Val.row, irow, dv]
  refine ⟨fun c4 => ?_, fun c4 => ?_⟩
  · refine CallS.at [0, 1, 2, 3] [4, 5] (ref_c R so sm sv sf _ dv hok) rfl rfl ?_
    rintro r h' n2 hn ⟨sv', sf', rfl, rfl⟩
    have hq1 : q - 1 < F.length := by omega
    have hz : F[q - 1]? = some F[q - 1] := by simp [hq1]
    have hl3 : R.free.length = q := by rw [hfr]; simp; omega
    have hz2 : R.free[R.free.length - 1]? = some F[q - 1] := by rw [hl3, hfr, List.getElem?_take, if_pos (by omega)]; exact hz
    have he := Reg.ref5 (R := R) (v := dv) (by decide) (by decide) (by omega) hz2
    have hok2 := hok.ref dv
    rw [he] at hok2 ⊢
    have hqq : ((q : Int) - 1).toNat = q - 1 := by omega
    simp -implicitDefEqProofs only [go_sem, Nat.reduceEqDiff, Nat.reduceAdd, Nat.reduceSub, Nat.reduceMul, Nat.reduceLeDiff, Nat.reduceLT, Nat.reduceBEq, Int.reduceToNat, Int.reduceLE, Int.reduceLT, Int.reduceEq, Int.reduceNe, Int.reduceAdd, Int.reduceSub, Int.reduceNeg, Int.toNat_natCast, reduceCtorEq, reduceIte, Nat.lt_irrefl, and_self, not_false_eq_true, not_true_eq_false, RegH, nO, nM, nV, nF, nL, Val.v, Val.row, irow, irow, hqq, atRow_is hz]
    refine ⟨by omega, by omega, by omega, ?_⟩
    refine ih _ (q - 1, { R with vals := R.vals.set (F[q - 1] - 1).toNat dv, free := R.free.dropLast }, sv', sf', n2) ⟨by dsimp only; omega, hok2, hnm, by simpa using hvl, ?_⟩ (by dsimp only; omega) (by simp -implicitDefEqProofs only [go_sem, Nat.reduceEqDiff, Nat.reduceAdd, Nat.reduceSub, Nat.reduceMul, Nat.reduceLeDiff, Nat.reduceLT, Nat.reduceBEq, Int.reduceToNat, Int.reduceLE, Int.reduceLT, Int.reduceEq, Int.reduceNe, Int.reduceAdd, Int.reduceSub, Int.reduceNeg, Int.toNat_natCast, reduceCtorEq, reduceIte, Nat.lt_irrefl, and_self, not_false_eq_true, not_true_eq_false, RegH, nO, nM, nV, nF, nL, Val.v, Val.row, irow, dv]; simp [irow]; omega)
    dsimp only
    rw [hfr, List.dropLast_eq_take, List.take_take]
    congr 1
    simp; omega
  · have hq0 : q = 0 := by omega
    subst hq0
    rw [List.take_zero] at hfr
    refine CallS.at [0, 1, 2, 3] [4, 5] (ref_c R so sm sv sf _ dv hok) rfl rfl ?_
    rintro r h' n2 hn ⟨sv', sf', rfl, rfl⟩
    have he := Reg.ref4 (R := R) (v := dv) (by decide) (by decide) (by rw [hfr]; simp; omega) hfr
    have hok2 := hok.ref dv
    rw [he] at hok2 ⊢
    simp -implicitDefEqProofs only [go_sem, Nat.reduceEqDiff, Nat.reduceAdd, Nat.reduceSub, Nat.reduceMul, Nat.reduceLeDiff, Nat.reduceLT, Nat.reduceBEq, Int.reduceToNat, Int.reduceLE, Int.reduceLT, Int.reduceEq, Int.reduceNe, Int.reduceAdd, Int.reduceSub, Int.reduceNeg, Int.toNat_natCast, reduceCtorEq, reduceIte, Nat.lt_irrefl, and_self, not_false_eq_true, not_true_eq_false, RegH, nO, nM, nV, nF, nL, Val.v, Val.row, irow]
    refine ⟨by omega, fun c5 => ?_, fun c5 => by omega⟩
    refine CallS.at [0, 1, 2, 3] [4, 5] (len_c { R with vals := R.vals ++ [dv] } so sm sv' sf' _ hok2) (by simp -implicitDefEqProofs only [go_sem, Nat.reduceEqDiff, Nat.reduceAdd, Nat.reduceSub, Nat.reduceMul, Nat.reduceLeDiff, Nat.reduceLT, Nat.reduceBEq, Int.reduceToNat, Int.reduceLE, Int.reduceLT, Int.reduceEq, Int.reduceNe, Int.reduceAdd, Int.reduceSub, Int.reduceNeg, Int.toNat_natCast, reduceCtorEq, reduceIte, Nat.lt_irrefl, and_self, not_false_eq_true, not_true_eq_false, RegH, nO, nM, nV, nF, nL, Val.v, Val.row, irow]) rfl ?_
    rintro r h' n3 hn ⟨rfl, rfl⟩
    simp -implicitDefEqProofs only [go_sem, Nat.reduceEqDiff, Nat.reduceAdd, Nat.reduceSub, Nat.reduceMul, Nat.reduceLeDiff, Nat.reduceLT, Nat.reduceBEq, Int.reduceToNat, Int.reduceLE, Int.reduceLT, Int.reduceEq, Int.reduceNe, Int.reduceAdd, Int.reduceSub, Int.reduceNeg, Int.toNat_natCast, reduceCtorEq, reduceIte, Nat.lt_irrefl, and_self, not_false_eq_true, not_true_eq_false, RegH, nO, nM, nV, nF, nL, Val.v, Val.row, irow, Reg.len, hfr, hnm]
    refine ⟨by omega, fun c6 => ?_, fun c6 => by omega⟩
    refine CallS.pureF lives_pure (by simp -implicitDefEqProofs only [go_sem, Nat.reduceEqDiff, Nat.reduceAdd, Nat.reduceSub, Nat.reduceMul, Nat.reduceLeDiff, Nat.reduceLT, Nat.reduceBEq, Int.reduceToNat, Int.reduceLE, Int.reduceLT, Int.reduceEq, Int.reduceNe, Int.reduceAdd, Int.reduceSub, Int.reduceNeg, Int.toNat_natCast, reduceCtorEq, reduceIte, Nat.lt_irrefl, and_self, not_false_eq_true, not_true_eq_false, RegH, nO, nM, nV, nF, nL, Val.v, Val.row, irow]) ?_
    simp -implicitDefEqProofs only [go_sem, Nat.reduceEqDiff, Nat.reduceAdd, Nat.reduceSub, Nat.reduceMul, Nat.reduceLeDiff, Nat.reduceLT, Nat.reduceBEq, Int.reduceToNat, Int.reduceLE, Int.reduceLT, Int.reduceEq, Int.reduceNe, Int.reduceAdd, Int.reduceSub, Int.reduceNeg, Int.toNat_natCast, reduceCtorEq, reduceIte, Nat.lt_irrefl, and_self, not_false_eq_true, not_true_eq_false, RegH, nO, nM, nV, nF, nL, Val.v, Val.row, irow]

theorem registryReuses_args (n : Int) (hn : (Lit.int .u8 n).wf = true) (zs : List Int) (hl : zs.length ≤ maxLen) (hz : ∀ z ∈ zs, (Lit.int .u8 z).wf = true) :
    Pure Try.prog 3 [.int .u8 n, .isl (zs.map fun z => [.int .u8 z])] (.bool true) :=
  reuses_pure n zs (wf_u8 hn).1 (wf_u8 hn).2 fun z hz' => wf_u8 (hz z hz')

end Go.Proofs.Ytnjgkcafmlmpcaa
