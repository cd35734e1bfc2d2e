/-
  What the reference's 'starts' answers. No condition.
-/
import Derived.Test.YtccghnpcfkifjaaDoorBlk
set_option linter.unusedVariables false
set_option linter.unusedSimpArgs false
set_option maxRecDepth 100000
set_option maxHeartbeats 0
namespace Go.Proofs.YtccghnpcfkifjaaDoor
open Go.Abs
attribute [local irreducible] CallS Run
-- EV: Ins.v, Ins.row

def rowsS (n : Nat) (f : Nat → Bool) : List (List V) := (List.range n).map fun k => [.bool (f k)]
theorem rowsS_len (n : Nat) (f : Nat → Bool) : (rowsS n f).length = n := by simp [rowsS]
theorem rowsS_none (n : Nat) : rowsS n (fun _ => false) = List.replicate n [.bool false] := by
  unfold rowsS; rw [List.map_const']; simp
theorem rowsS_at {n : Nat} {f : Nat → Bool} {k : Nat} (h : k < n) : (rowsS n f)[k]? = some [.bool (f k)] := by simp [rowsS, h]
theorem rowsS_set {n : Nat} {f : Nat → Bool} {k : Nat} (h : k < n) : (rowsS n f).set k [.bool true] = rowsS n (fun x => f x || decide (x = k)) := by
  have hl := rowsS_len n f
  refine List.ext_getElem? fun i => ?_
  rw [List.getElem?_set]
  by_cases hi : i < n
  · rw [rowsS_at hi, rowsS_at hi]
    by_cases c : k = i
    · subst c; simp [hl, h]
    · rw [if_neg c]; simp [show ¬ i = k from fun e => c e.symm]
  · rw [if_neg (by omega), List.getElem?_eq_none (by rw [rowsS_len]; omega), List.getElem?_eq_none (by rw [rowsS_len]; omega)]
theorem frzS (d : Nat) (h : Heap) (n : Nat) (f : Nat → Bool) : (rowsS n f).map (fun r => r.map (frz d h)) = rowsS n f := by
  unfold rowsS
  rw [List.map_map]
  exact List.map_congr_left fun y _ => by simp [frz_bool]
/-- The beginnings that the first 'n' instructions make. -/
def stF (code : List Ins) (n : Nat) (k : Nat) : Bool := (decide (0 < n) && decide (k = 0)) || (List.range n).any fun a => mkB code a k
theorem stF_zero (code : List Ins) : stF code 0 = fun _ => false := by funext k; simp [stF]
theorem stF_all {code : List Ins} (h : 0 < code.length) (k : Nat) : stF code code.length k = stB code k := by
  unfold stF stB stT
  have : (decide ((k : Int) = 0)) = decide (k = 0) := by simp
  rw [this]; simp [h]
theorem stF_step {code : List Ins} {n : Nat} (g : Nat → Bool) (hg : ∀ k, g k = (stF code n k || (decide (n = 0) && decide (k = 0)) || mkB code n k)) : g = stF code (n + 1) := by
  funext k
  rw [hg]
  unfold stF
  rw [List.range_succ, List.any_append]
  by_cases h0 : n = 0
  · subst h0; simp
  · have : 0 < n := by omega
    simp [h0, this, Bool.or_assoc]

theorem starts_pure (code : List Ins) (hc : code.length ≤ 10000) (c0 c1 c2 c3 c4 c6 c7 c8 c9 c10 : V) (hb0 : [c0, c1, c2, c3, c4, c6, c7, c8, c9, c10].map (V.sub lost) = [c0, c1, c2, c3, c4, c6, c7, c8, c9, c10]) :
    Pure Tryd.prog 35 [.agg [c0, c1, c2, c3, c4, .isl (code.map Ins.row), c6, c7, c8, c9, c10]] (.isl (rowsS (code.length + 1) (stF code code.length))) := by
  refine Pure.of 1 (CallS.enter scriptingref35_starts_ok (Nat.le_of_ble_eq_true rfl) ?_)
  simp only [List.map_cons, List.map_nil, List.cons.injEq, and_true] at hb0
  have hnx := fun a => rnext_pure code a (by omega) c0 c1 c2 c3 c4 c6 c7 c8 c9 c10
  have hlen : (code.map Ins.row).length = code.length := List.length_map ..
  have hrow : ∀ (k : Nat) (x : Ins), code[k]? = some x → (code.map Ins.row)[k]? = some x.row := fun k x h => by rw [List.getElem?_map, h]; rfl
  have hsz : rowsz (code.map Ins.row) 5 = True := eq_true fun r hr => by obtain ⟨y, _, rfl⟩ := List.mem_map.1 hr; rfl
  have hsub : (code.map Ins.row).map (fun r => r.map (V.sub lost)) = code.map Ins.row := subI lost code
  generalize code.map Ins.row = es at *
  refine Run.go 100 ?_
  have hN : ((code.length : Int) + 1).toNat = code.length + 1 := by omega
  simp -implicitDefEqProofs only [go_sem, Nat.reduceEqDiff, Nat.reduceAdd, Nat.reduceSub, Nat.reduceMul, Nat.reduceLeDiff, Nat.reduceLT, Nat.reduceBEq, Int.reduceToNat, Int.reduceLE, Int.reduceLT, Int.reduceEq, Int.reduceNe, Int.reduceAdd, Int.reduceSub, Int.reduceNeg, Int.toNat_natCast, Int.cast_ofNat_Int, Int.natCast_zero, Int.natCast_one, reduceCtorEq, reduceIte, Nat.lt_irrefl, and_self, not_false_eq_true, not_true_eq_false, Ins.v, Ins.row, initSl, hlen, hN]
  refine ⟨by omega, by omega, by omega, ?_⟩
  refine Run.rounds (fun (x : Nat) => ⟨[(4, .int .i64 x), (3, .sl (35 * 10000 + 13) 1 0 (code.length + 1)), (1, .ptr (35 * 10000 + 1) 0 0 0)], [((35 * 10000 + 13), 1, .rows 1 (rowsS (code.length + 1) (stF code x))), ((35 * 10000 + 1), 0, .rows 11 [[c0, c1, c2, c3, c4, .isl es, c6, c7, c8, c9, c10]])], 2⟩)
    (fun x => x ≤ code.length) (fun x => code.length - x) 0 (by simp -implicitDefEqProofs only [go_sem, Nat.reduceEqDiff, Nat.reduceAdd, Nat.reduceSub, Nat.reduceMul, Nat.reduceLeDiff, Nat.reduceLT, Nat.reduceBEq, Int.reduceToNat, Int.reduceLE, Int.reduceLT, Int.reduceEq, Int.reduceNe, Int.reduceAdd, Int.reduceSub, Int.reduceNeg, Int.toNat_natCast, Int.cast_ofNat_Int, Int.natCast_zero, Int.natCast_one, reduceCtorEq, reduceIte, Nat.lt_irrefl, and_self, not_false_eq_true, not_true_eq_false, Ins.v, Ins.row, stF_zero, rowsS_none]) (by omega) ?_
  intro k hk ih
  have hz : ((k + 1 : Nat) : Int) = (k : Int) + 1 := by omega
  refine Run.unf scriptingref35_starts_l0_eq (Run.go 100 ?_)
  by_cases c : (k : Int) < code.length
  rotate_left
  · have e : k = code.length := by omega
    subst e
    simp -implicitDefEqProofs only [go_sem, Nat.reduceEqDiff, Nat.reduceAdd, Nat.reduceSub, Nat.reduceMul, Nat.reduceLeDiff, Nat.reduceLT, Nat.reduceBEq, Int.reduceToNat, Int.reduceLE, Int.reduceLT, Int.reduceEq, Int.reduceNe, Int.reduceAdd, Int.reduceSub, Int.reduceNeg, Int.toNat_natCast, Int.cast_ofNat_Int, Int.natCast_zero, Int.natCast_one, reduceCtorEq, reduceIte, Nat.lt_irrefl, and_self, not_false_eq_true, not_true_eq_false, Ins.v, Ins.row, c, hlen]
    rw [if_pos (by rw [rowsS_len]; exact Nat.le_refl _), List.take_of_length_le (by rw [rowsS_len]; exact Nat.le_refl _)]
    exact congrArg V.isl (frzS _ _ _ _)
  obtain ⟨i, hi⟩ : ∃ i, code[k]? = some i := ⟨code[k]'(by omega), by simp⟩
  have hr := hrow k i hi
  have k0 : ((0 : Int) ≤ (k : Int)) = True := eq_true (by omega)
  have k1 : ((k : Int) < (code.length : Int)) = True := eq_true c
  have k2 : (k < code.length) = True := eq_true (by omega)
  have tp := rtarget_pure i
  have fp := rfalls_pure i
  have q0 : ((0 : Int) < ((code.length + 1 : Nat) : Int)) = True := eq_true (by omega)
  have p0 : ((0 : Int) ≤ (k : Int) + 1) = True := eq_true (by omega)
  have p1 : ((k : Int) + 1 < ((code.length + 1 : Nat) : Int)) = True := eq_true (by omega)
  have p2 : ((k : Int) + 1).toNat = k + 1 := by omega
  have fin : ∀ s g, (∀ x : Nat, g x = (stF code k x || (decide (k = 0) && decide (x = 0)) || mkB code k x)) → Weak s ⟨[(4, .int .i64 ((k : Int) + 1)), (3, .sl (35 * 10000 + 13) 1 0 (code.length + 1)), (1, .ptr (35 * 10000 + 1) 0 0 0)], [((35 * 10000 + 13), 1, .rows 1 (rowsS (code.length + 1) g)), ((35 * 10000 + 1), 0, .rows 11 [[c0, c1, c2, c3, c4, .isl es, c6, c7, c8, c9, c10]])], 2⟩ → _ :=
    fun s g hg hw => ih s (k + 1) (by omega) (by omega) (by simp only [hz]; rw [← stF_step g hg]; exact hw)
  clear ih
  have hm : ∀ x : Int, mkB code k x = ((isJump i.op && decide (x ∈ nextL code k)) || ((isJump i.op || !falls i.op) && decide (x = (k : Int) + 1))) := fun x => by unfold mkB; rw [hi]
  simp only [hm] at fin
  have cast : ∀ x : Nat, decide ((x : Int) = (k : Int) + 1) = decide (x = k + 1) := fun x => by
    by_cases e : x = k + 1
    · subst e; simp
    · have : ¬ (x : Int) = (k : Int) + 1 := by omega
      simp [e, this]
  clear hm
  have hnin := fun x (h : x ∈ nextL code k) => nextL_in h
  have hnl := nextL_len2 code k
  replace hnx := hnx k
  -- from the second test on, whatever holds before it
  obtain ⟨f, hf⟩ : ∃ f : Nat → Bool, f = fun x => (stF code k x || (decide (k = 0) && decide (x = 0))) := ⟨_, rfl⟩
  have hfx : ∀ x, (stF code k x || (decide (k = 0) && decide (x = 0))) = f x := fun x => by rw [hf]
  simp only [hfx] at fin
  simp -implicitDefEqProofs only [go_sem, Nat.reduceEqDiff, Nat.reduceAdd, Nat.reduceSub, Nat.reduceMul, Nat.reduceLeDiff, Nat.reduceLT, Nat.reduceBEq, Int.reduceToNat, Int.reduceLE, Int.reduceLT, Int.reduceEq, Int.reduceNe, Int.reduceAdd, Int.reduceSub, Int.reduceNeg, Int.toNat_natCast, Int.cast_ofNat_Int, Int.natCast_zero, Int.natCast_one, reduceCtorEq, reduceIte, Nat.lt_irrefl, and_self, not_false_eq_true, not_true_eq_false, Ins.v, Ins.row, hlen, hr, hsz, k0, k1, k2, Option.some.injEq, forall_eq']
  refine CallS.pureF tp (by simp -implicitDefEqProofs only [go_sem, Nat.reduceEqDiff, Nat.reduceAdd, Nat.reduceSub, Nat.reduceMul, Nat.reduceLeDiff, Nat.reduceLT, Nat.reduceBEq, Int.reduceToNat, Int.reduceLE, Int.reduceLT, Int.reduceEq, Int.reduceNe, Int.reduceAdd, Int.reduceSub, Int.reduceNeg, Int.toNat_natCast, Int.cast_ofNat_Int, Int.natCast_zero, Int.natCast_one, reduceCtorEq, reduceIte, Nat.lt_irrefl, and_self, not_false_eq_true, not_true_eq_false, Ins.v, Ins.row]) ?_
  have h1 := rowsS_at (f := stF code k) (show 0 < code.length + 1 by omega)
  have h3 := rowsS_len (code.length + 1) (stF code k)
  have h2 : (if k = 0 then (rowsS (code.length + 1) (stF code k)).set 0 [.bool true] else rowsS (code.length + 1) (stF code k)) = rowsS (code.length + 1) f := by
    split
    · rename_i e
      rw [rowsS_set (show 0 < code.length + 1 by omega), hf]
      simp [e]
    · rename_i e
      rw [hf]; simp [e]
  generalize rowsS (code.length + 1) (stF code k) = R at *
  have g1 := rowsS_at (f := f) (show k + 1 < code.length + 1 by omega)
  have g2 := rowsS_set (f := f) (show k + 1 < code.length + 1 by omega)
  have g3 := rowsS_len (code.length + 1) f
  have key : ∀ G, G = rowsS (code.length + 1) f → G[k + 1]? = some [.bool (f (k + 1))] ∧ G.set (k + 1) [.bool true] = rowsS (code.length + 1) (fun x => f x || decide (x = k + 1)) ∧ G.length = code.length + 1 := fun G e => by subst e; exact ⟨g1, g2, g3⟩
  rcases (by omega : k = 0 ∨ ¬ k = 0) with hk0 | hk0 <;> cases hj : isJump i.op
  all_goals
    first
      | (rw [if_pos hk0] at h2
         have z0 : ((k : Int) = 0) = True := eq_true (by omega)
         obtain ⟨m1, m2, m3⟩ := key _ h2
         generalize hGe : R.set 0 [.bool true] = G at *
         simp -implicitDefEqProofs only [go_sem, Nat.reduceEqDiff, Nat.reduceAdd, Nat.reduceSub, Nat.reduceMul, Nat.reduceLeDiff, Nat.reduceLT, Nat.reduceBEq, Int.reduceToNat, Int.reduceLE, Int.reduceLT, Int.reduceEq, Int.reduceNe, Int.reduceAdd, Int.reduceSub, Int.reduceNeg, Int.toNat_natCast, Int.cast_ofNat_Int, Int.natCast_zero, Int.natCast_one, reduceCtorEq, reduceIte, Nat.lt_irrefl, and_self, not_false_eq_true, not_true_eq_false, Ins.v, Ins.row, q0, h1, h3, z0, hGe, hj, hlen, hr, hsz, k0, k1, k2, p0, p1, p2, m1, m2, m3, Option.some.injEq, forall_eq', List.drop_one, List.tail_cons])
      | (rw [if_neg hk0] at h2
         have z0 : ((k : Int) = 0) = False := eq_false (by omega)
         obtain ⟨m1, m2, m3⟩ := key _ h2
         generalize hGe : R = G at *
         simp -implicitDefEqProofs only [go_sem, Nat.reduceEqDiff, Nat.reduceAdd, Nat.reduceSub, Nat.reduceMul, Nat.reduceLeDiff, Nat.reduceLT, Nat.reduceBEq, Int.reduceToNat, Int.reduceLE, Int.reduceLT, Int.reduceEq, Int.reduceNe, Int.reduceAdd, Int.reduceSub, Int.reduceNeg, Int.toNat_natCast, Int.cast_ofNat_Int, Int.natCast_zero, Int.natCast_one, reduceCtorEq, reduceIte, Nat.lt_irrefl, and_self, not_false_eq_true, not_true_eq_false, Ins.v, Ins.row, q0, z0, hj, hlen, hr, hsz, k0, k1, k2, p0, p1, p2, m1, m2, m3, Option.some.injEq, forall_eq', List.drop_one, List.tail_cons])
  · try refine ⟨by omega, ?_⟩
    refine CallS.pureF fp (by simp -implicitDefEqProofs only [go_sem, Nat.reduceEqDiff, Nat.reduceAdd, Nat.reduceSub, Nat.reduceMul, Nat.reduceLeDiff, Nat.reduceLT, Nat.reduceBEq, Int.reduceToNat, Int.reduceLE, Int.reduceLT, Int.reduceEq, Int.reduceNe, Int.reduceAdd, Int.reduceSub, Int.reduceNeg, Int.toNat_natCast, Int.cast_ofNat_Int, Int.natCast_zero, Int.natCast_one, reduceCtorEq, reduceIte, Nat.lt_irrefl, and_self, not_false_eq_true, not_true_eq_false, Ins.v, Ins.row]) ?_
    cases hff : falls i.op
    · simp -implicitDefEqProofs only [go_sem, Nat.reduceEqDiff, Nat.reduceAdd, Nat.reduceSub, Nat.reduceMul, Nat.reduceLeDiff, Nat.reduceLT, Nat.reduceBEq, Int.reduceToNat, Int.reduceLE, Int.reduceLT, Int.reduceEq, Int.reduceNe, Int.reduceAdd, Int.reduceSub, Int.reduceNeg, Int.toNat_natCast, Int.cast_ofNat_Int, Int.natCast_zero, Int.natCast_one, reduceCtorEq, reduceIte, Nat.lt_irrefl, and_self, not_false_eq_true, not_true_eq_false, Ins.v, Ins.row, p0, p1, p2, m1, m2, m3, Option.some.injEq, forall_eq', List.drop_one, List.tail_cons]
      refine ⟨by omega, by omega, by omega, ?_⟩
      exact fin _ (fun x => f x || decide (x = k + 1)) (fun x => by rw [hj, hff, cast]; simp) (by simp -implicitDefEqProofs only [go_sem, Nat.reduceEqDiff, Nat.reduceAdd, Nat.reduceSub, Nat.reduceMul, Nat.reduceLeDiff, Nat.reduceLT, Nat.reduceBEq, Int.reduceToNat, Int.reduceLE, Int.reduceLT, Int.reduceEq, Int.reduceNe, Int.reduceAdd, Int.reduceSub, Int.reduceNeg, Int.toNat_natCast, Int.cast_ofNat_Int, Int.natCast_zero, Int.natCast_one, reduceCtorEq, reduceIte, Nat.lt_irrefl, and_self, not_false_eq_true, not_true_eq_false, Ins.v, Ins.row])
    · simp -implicitDefEqProofs only [go_sem, Nat.reduceEqDiff, Nat.reduceAdd, Nat.reduceSub, Nat.reduceMul, Nat.reduceLeDiff, Nat.reduceLT, Nat.reduceBEq, Int.reduceToNat, Int.reduceLE, Int.reduceLT, Int.reduceEq, Int.reduceNe, Int.reduceAdd, Int.reduceSub, Int.reduceNeg, Int.toNat_natCast, Int.cast_ofNat_Int, Int.natCast_zero, Int.natCast_one, reduceCtorEq, reduceIte, Nat.lt_irrefl, and_self, not_false_eq_true, not_true_eq_false, Ins.v, Ins.row]
      refine ⟨by omega, ?_⟩
      exact fin _ f (fun x => by rw [hj, hff]; simp) (by simp -implicitDefEqProofs only [go_sem, Nat.reduceEqDiff, Nat.reduceAdd, Nat.reduceSub, Nat.reduceMul, Nat.reduceLeDiff, Nat.reduceLT, Nat.reduceBEq, Int.reduceToNat, Int.reduceLE, Int.reduceLT, Int.reduceEq, Int.reduceNe, Int.reduceAdd, Int.reduceSub, Int.reduceNeg, Int.toNat_natCast, Int.cast_ofNat_Int, Int.natCast_zero, Int.natCast_one, reduceCtorEq, reduceIte, Nat.lt_irrefl, and_self, not_false_eq_true, not_true_eq_false, Ins.v, Ins.row, h2])
  · first | refine ⟨by omega, by omega, by omega, ?_⟩ | refine ⟨by omega, by omega, ?_⟩
    refine CallS.pure hnx (by simp -implicitDefEqProofs only [go_sem, Nat.reduceEqDiff, Nat.reduceAdd, Nat.reduceSub, Nat.reduceMul, Nat.reduceLeDiff, Nat.reduceLT, Nat.reduceBEq, Int.reduceToNat, Int.reduceLE, Int.reduceLT, Int.reduceEq, Int.reduceNe, Int.reduceAdd, Int.reduceSub, Int.reduceNeg, Int.toNat_natCast, Int.cast_ofNat_Int, Int.natCast_zero, Int.natCast_one, reduceCtorEq, reduceIte, Nat.lt_irrefl, and_self, not_false_eq_true, not_true_eq_false, Ins.v, Ins.row, hsub, hb0]) ?_
    generalize nextL code k = nl at *
    have hnls : ∀ (j : Nat) (x : Int), nl[j]? = some x → (nl.map zrw)[j]? = some [.int .i64 x] := fun j x h => by rw [List.getElem?_map, h]; rfl
    have hnll : (nl.map zrw).length = nl.length := List.length_map ..
    have hnlz : rowsz (nl.map zrw) 1 = True := eq_true fun r hr => by obtain ⟨y, _, rfl⟩ := List.mem_map.1 hr; rfl
    generalize nl.map zrw = nls at *
    simp -implicitDefEqProofs only [go_sem, Nat.reduceEqDiff, Nat.reduceAdd, Nat.reduceSub, Nat.reduceMul, Nat.reduceLeDiff, Nat.reduceLT, Nat.reduceBEq, Int.reduceToNat, Int.reduceLE, Int.reduceLT, Int.reduceEq, Int.reduceNe, Int.reduceAdd, Int.reduceSub, Int.reduceNeg, Int.toNat_natCast, Int.cast_ofNat_Int, Int.natCast_zero, Int.natCast_one, reduceCtorEq, reduceIte, Nat.lt_irrefl, and_self, not_false_eq_true, not_true_eq_false, Ins.v, Ins.row, hnll]
    refine Run.rounds (fun (x : Nat) => ⟨[(8, .int .i64 x), (7, .isl nls), (4, .int .i64 k), (3, .sl (35 * 10000 + 13) 1 0 (code.length + 1)), (1, .ptr (35 * 10000 + 1) 0 0 0)], [((35 * 10000 + 13), 1, .rows 1 (rowsS (code.length + 1) (fun y => f y || decide (y = k + 1) || decide ((y : Int) ∈ nl.take x)))), ((35 * 10000 + 1), 0, .rows 11 [[c0, c1, c2, c3, c4, .isl es, c6, c7, c8, c9, c10]])], 2⟩) (fun x => x ≤ nl.length) (fun x => nl.length - x) 0 (by simp -implicitDefEqProofs only [go_sem, Nat.reduceEqDiff, Nat.reduceAdd, Nat.reduceSub, Nat.reduceMul, Nat.reduceLeDiff, Nat.reduceLT, Nat.reduceBEq, Int.reduceToNat, Int.reduceLE, Int.reduceLT, Int.reduceEq, Int.reduceNe, Int.reduceAdd, Int.reduceSub, Int.reduceNeg, Int.toNat_natCast, Int.cast_ofNat_Int, Int.natCast_zero, Int.natCast_one, reduceCtorEq, reduceIte, Nat.lt_irrefl, and_self, not_false_eq_true, not_true_eq_false, Ins.v, Ins.row, List.take_zero, List.not_mem_nil, decide_false, Bool.or_false]) (by omega) ?_
    intro j hjl ih2
    have hz2 : ((j + 1 : Nat) : Int) = (j : Int) + 1 := by omega
    refine Run.unf scriptingref35_starts_l1_eq (Run.go 100 ?_)
    by_cases c2 : (j : Int) < nl.length
    · obtain ⟨x, hx⟩ : ∃ x, nl[j]? = some x := ⟨nl[j]'(by omega), by simp⟩
      have hxr := hnls j x hx
      have hxi := hnin x (List.mem_of_getElem? hx)
      obtain ⟨y, rfl⟩ : ∃ y : Nat, x = y := ⟨x.toNat, by omega⟩
      have j0 : ((0 : Int) ≤ (j : Int)) = True := eq_true (by omega)
      have j1 : ((j : Int) < (nl.length : Int)) = True := eq_true c2
      have j2 : (j < nl.length) = True := eq_true (by omega)
      have y0 : ((0 : Int) ≤ (y : Int)) = True := eq_true (by omega)
      have y1 : ((y : Int) < ((code.length + 1 : Nat) : Int)) = True := eq_true (by omega)
      have w1 := rowsS_at (f := fun z => f z || decide (z = k + 1) || decide ((z : Int) ∈ nl.take j)) (show y < code.length + 1 by omega)
      have w2 := rowsS_set (f := fun z => f z || decide (z = k + 1) || decide ((z : Int) ∈ nl.take j)) (show y < code.length + 1 by omega)
      have w3 := rowsS_len (code.length + 1) (fun z => f z || decide (z = k + 1) || decide ((z : Int) ∈ nl.take j))
      rw [show (fun z => f z || decide (z = k + 1) || decide ((z : Int) ∈ nl.take j) || decide (z = y)) = (fun z => f z || decide (z = k + 1) || decide ((z : Int) ∈ nl.take (j + 1))) by
        funext z
        rw [List.take_add_one, hx]
        by_cases e : z = y
        · subst e; simp
        · have : ¬ (z : Int) = (y : Int) := by omega
          simp [e, this]] at w2
      generalize rowsS (code.length + 1) (fun z => f z || decide (z = k + 1) || decide ((z : Int) ∈ nl.take j)) = W at *
      simp -implicitDefEqProofs only [go_sem, Nat.reduceEqDiff, Nat.reduceAdd, Nat.reduceSub, Nat.reduceMul, Nat.reduceLeDiff, Nat.reduceLT, Nat.reduceBEq, Int.reduceToNat, Int.reduceLE, Int.reduceLT, Int.reduceEq, Int.reduceNe, Int.reduceAdd, Int.reduceSub, Int.reduceNeg, Int.toNat_natCast, Int.cast_ofNat_Int, Int.natCast_zero, Int.natCast_one, reduceCtorEq, reduceIte, Nat.lt_irrefl, and_self, not_false_eq_true, not_true_eq_false, Ins.v, Ins.row, c2, hnll, hnlz, hxr, j0, j1, j2, y0, y1, w1, w2, w3, Option.some.injEq, forall_eq', List.drop_one, List.tail_cons]
      refine ⟨by omega, by omega, ?_⟩
      exact ih2 _ (j + 1) (by omega) (by omega) (by simp only [hz2]; simp -implicitDefEqProofs only [go_sem, Nat.reduceEqDiff, Nat.reduceAdd, Nat.reduceSub, Nat.reduceMul, Nat.reduceLeDiff, Nat.reduceLT, Nat.reduceBEq, Int.reduceToNat, Int.reduceLE, Int.reduceLT, Int.reduceEq, Int.reduceNe, Int.reduceAdd, Int.reduceSub, Int.reduceNeg, Int.toNat_natCast, Int.cast_ofNat_Int, Int.natCast_zero, Int.natCast_one, reduceCtorEq, reduceIte, Nat.lt_irrefl, and_self, not_false_eq_true, not_true_eq_false, Ins.v, Ins.row])
    · have e : j = nl.length := by omega
      subst e
      rw [List.take_length]
      simp -implicitDefEqProofs only [go_sem, Nat.reduceEqDiff, Nat.reduceAdd, Nat.reduceSub, Nat.reduceMul, Nat.reduceLeDiff, Nat.reduceLT, Nat.reduceBEq, Int.reduceToNat, Int.reduceLE, Int.reduceLT, Int.reduceEq, Int.reduceNe, Int.reduceAdd, Int.reduceSub, Int.reduceNeg, Int.toNat_natCast, Int.cast_ofNat_Int, Int.natCast_zero, Int.natCast_one, reduceCtorEq, reduceIte, Nat.lt_irrefl, and_self, not_false_eq_true, not_true_eq_false, Ins.v, Ins.row, c2, hnll]
      refine ⟨by omega, ?_⟩
      exact fin _ (fun x => f x || decide (x = k + 1) || decide ((x : Int) ∈ nl)) (fun x => by rw [hj, cast]; simp [Bool.or_assoc, Bool.or_comm, Bool.or_left_comm]) (by simp -implicitDefEqProofs only [go_sem, Nat.reduceEqDiff, Nat.reduceAdd, Nat.reduceSub, Nat.reduceMul, Nat.reduceLeDiff, Nat.reduceLT, Nat.reduceBEq, Int.reduceToNat, Int.reduceLE, Int.reduceLT, Int.reduceEq, Int.reduceNe, Int.reduceAdd, Int.reduceSub, Int.reduceNeg, Int.toNat_natCast, Int.cast_ofNat_Int, Int.natCast_zero, Int.natCast_one, reduceCtorEq, reduceIte, Nat.lt_irrefl, and_self, not_false_eq_true, not_true_eq_false, Ins.v, Ins.row])
  · try refine ⟨by omega, ?_⟩
    refine CallS.pureF fp (by simp -implicitDefEqProofs only [go_sem, Nat.reduceEqDiff, Nat.reduceAdd, Nat.reduceSub, Nat.reduceMul, Nat.reduceLeDiff, Nat.reduceLT, Nat.reduceBEq, Int.reduceToNat, Int.reduceLE, Int.reduceLT, Int.reduceEq, Int.reduceNe, Int.reduceAdd, Int.reduceSub, Int.reduceNeg, Int.toNat_natCast, Int.cast_ofNat_Int, Int.natCast_zero, Int.natCast_one, reduceCtorEq, reduceIte, Nat.lt_irrefl, and_self, not_false_eq_true, not_true_eq_false, Ins.v, Ins.row]) ?_
    cases hff : falls i.op
    · simp -implicitDefEqProofs only [go_sem, Nat.reduceEqDiff, Nat.reduceAdd, Nat.reduceSub, Nat.reduceMul, Nat.reduceLeDiff, Nat.reduceLT, Nat.reduceBEq, Int.reduceToNat, Int.reduceLE, Int.reduceLT, Int.reduceEq, Int.reduceNe, Int.reduceAdd, Int.reduceSub, Int.reduceNeg, Int.toNat_natCast, Int.cast_ofNat_Int, Int.natCast_zero, Int.natCast_one, reduceCtorEq, reduceIte, Nat.lt_irrefl, and_self, not_false_eq_true, not_true_eq_false, Ins.v, Ins.row, p0, p1, p2, m1, m2, m3, Option.some.injEq, forall_eq', List.drop_one, List.tail_cons]
      refine ⟨by omega, by omega, by omega, ?_⟩
      exact fin _ (fun x => f x || decide (x = k + 1)) (fun x => by rw [hj, hff, cast]; simp) (by simp -implicitDefEqProofs only [go_sem, Nat.reduceEqDiff, Nat.reduceAdd, Nat.reduceSub, Nat.reduceMul, Nat.reduceLeDiff, Nat.reduceLT, Nat.reduceBEq, Int.reduceToNat, Int.reduceLE, Int.reduceLT, Int.reduceEq, Int.reduceNe, Int.reduceAdd, Int.reduceSub, Int.reduceNeg, Int.toNat_natCast, Int.cast_ofNat_Int, Int.natCast_zero, Int.natCast_one, reduceCtorEq, reduceIte, Nat.lt_irrefl, and_self, not_false_eq_true, not_true_eq_false, Ins.v, Ins.row])
    · simp -implicitDefEqProofs only [go_sem, Nat.reduceEqDiff, Nat.reduceAdd, Nat.reduceSub, Nat.reduceMul, Nat.reduceLeDiff, Nat.reduceLT, Nat.reduceBEq, Int.reduceToNat, Int.reduceLE, Int.reduceLT, Int.reduceEq, Int.reduceNe, Int.reduceAdd, Int.reduceSub, Int.reduceNeg, Int.toNat_natCast, Int.cast_ofNat_Int, Int.natCast_zero, Int.natCast_one, reduceCtorEq, reduceIte, Nat.lt_irrefl, and_self, not_false_eq_true, not_true_eq_false, Ins.v, Ins.row]
      refine ⟨by omega, ?_⟩
      exact fin _ f (fun x => by rw [hj, hff]; simp) (by simp -implicitDefEqProofs only [go_sem, Nat.reduceEqDiff, Nat.reduceAdd, Nat.reduceSub, Nat.reduceMul, Nat.reduceLeDiff, Nat.reduceLT, Nat.reduceBEq, Int.reduceToNat, Int.reduceLE, Int.reduceLT, Int.reduceEq, Int.reduceNe, Int.reduceAdd, Int.reduceSub, Int.reduceNeg, Int.toNat_natCast, Int.cast_ofNat_Int, Int.natCast_zero, Int.natCast_one, reduceCtorEq, reduceIte, Nat.lt_irrefl, and_self, not_false_eq_true, not_true_eq_false, Ins.v, Ins.row, h2])
  · first | refine ⟨by omega, by omega, by omega, ?_⟩ | refine ⟨by omega, by omega, ?_⟩
    refine CallS.pure hnx (by simp -implicitDefEqProofs only [go_sem, Nat.reduceEqDiff, Nat.reduceAdd, Nat.reduceSub, Nat.reduceMul, Nat.reduceLeDiff, Nat.reduceLT, Nat.reduceBEq, Int.reduceToNat, Int.reduceLE, Int.reduceLT, Int.reduceEq, Int.reduceNe, Int.reduceAdd, Int.reduceSub, Int.reduceNeg, Int.toNat_natCast, Int.cast_ofNat_Int, Int.natCast_zero, Int.natCast_one, reduceCtorEq, reduceIte, Nat.lt_irrefl, and_self, not_false_eq_true, not_true_eq_false, Ins.v, Ins.row, hsub, hb0]) ?_
    generalize nextL code k = nl at *
    have hnls : ∀ (j : Nat) (x : Int), nl[j]? = some x → (nl.map zrw)[j]? = some [.int .i64 x] := fun j x h => by rw [List.getElem?_map, h]; rfl
    have hnll : (nl.map zrw).length = nl.length := List.length_map ..
    have hnlz : rowsz (nl.map zrw) 1 = True := eq_true fun r hr => by obtain ⟨y, _, rfl⟩ := List.mem_map.1 hr; rfl
    generalize nl.map zrw = nls at *
    simp -implicitDefEqProofs only [go_sem, Nat.reduceEqDiff, Nat.reduceAdd, Nat.reduceSub, Nat.reduceMul, Nat.reduceLeDiff, Nat.reduceLT, Nat.reduceBEq, Int.reduceToNat, Int.reduceLE, Int.reduceLT, Int.reduceEq, Int.reduceNe, Int.reduceAdd, Int.reduceSub, Int.reduceNeg, Int.toNat_natCast, Int.cast_ofNat_Int, Int.natCast_zero, Int.natCast_one, reduceCtorEq, reduceIte, Nat.lt_irrefl, and_self, not_false_eq_true, not_true_eq_false, Ins.v, Ins.row, hnll]
    refine Run.rounds (fun (x : Nat) => ⟨[(8, .int .i64 x), (7, .isl nls), (4, .int .i64 k), (3, .sl (35 * 10000 + 13) 1 0 (code.length + 1)), (1, .ptr (35 * 10000 + 1) 0 0 0)], [((35 * 10000 + 13), 1, .rows 1 (rowsS (code.length + 1) (fun y => f y || decide (y = k + 1) || decide ((y : Int) ∈ nl.take x)))), ((35 * 10000 + 1), 0, .rows 11 [[c0, c1, c2, c3, c4, .isl es, c6, c7, c8, c9, c10]])], 2⟩) (fun x => x ≤ nl.length) (fun x => nl.length - x) 0 (by simp -implicitDefEqProofs only [go_sem, Nat.reduceEqDiff, Nat.reduceAdd, Nat.reduceSub, Nat.reduceMul, Nat.reduceLeDiff, Nat.reduceLT, Nat.reduceBEq, Int.reduceToNat, Int.reduceLE, Int.reduceLT, Int.reduceEq, Int.reduceNe, Int.reduceAdd, Int.reduceSub, Int.reduceNeg, Int.toNat_natCast, Int.cast_ofNat_Int, Int.natCast_zero, Int.natCast_one, reduceCtorEq, reduceIte, Nat.lt_irrefl, and_self, not_false_eq_true, not_true_eq_false, Ins.v, Ins.row, List.take_zero, List.not_mem_nil, decide_false, Bool.or_false]) (by omega) ?_
    intro j hjl ih2
    have hz2 : ((j + 1 : Nat) : Int) = (j : Int) + 1 := by omega
    refine Run.unf scriptingref35_starts_l1_eq (Run.go 100 ?_)
    by_cases c2 : (j : Int) < nl.length
    · obtain ⟨x, hx⟩ : ∃ x, nl[j]? = some x := ⟨nl[j]'(by omega), by simp⟩
      have hxr := hnls j x hx
      have hxi := hnin x (List.mem_of_getElem? hx)
      obtain ⟨y, rfl⟩ : ∃ y : Nat, x = y := ⟨x.toNat, by omega⟩
      have j0 : ((0 : Int) ≤ (j : Int)) = True := eq_true (by omega)
      have j1 : ((j : Int) < (nl.length : Int)) = True := eq_true c2
      have j2 : (j < nl.length) = True := eq_true (by omega)
      have y0 : ((0 : Int) ≤ (y : Int)) = True := eq_true (by omega)
      have y1 : ((y : Int) < ((code.length + 1 : Nat) : Int)) = True := eq_true (by omega)
      have w1 := rowsS_at (f := fun z => f z || decide (z = k + 1) || decide ((z : Int) ∈ nl.take j)) (show y < code.length + 1 by omega)
      have w2 := rowsS_set (f := fun z => f z || decide (z = k + 1) || decide ((z : Int) ∈ nl.take j)) (show y < code.length + 1 by omega)
      have w3 := rowsS_len (code.length + 1) (fun z => f z || decide (z = k + 1) || decide ((z : Int) ∈ nl.take j))
      rw [show (fun z => f z || decide (z = k + 1) || decide ((z : Int) ∈ nl.take j) || decide (z = y)) = (fun z => f z || decide (z = k + 1) || decide ((z : Int) ∈ nl.take (j + 1))) by
        funext z
        rw [List.take_add_one, hx]
        by_cases e : z = y
        · subst e; simp
        · have : ¬ (z : Int) = (y : Int) := by omega
          simp [e, this]] at w2
      generalize rowsS (code.length + 1) (fun z => f z || decide (z = k + 1) || decide ((z : Int) ∈ nl.take j)) = W at *
      simp -implicitDefEqProofs only [go_sem, Nat.reduceEqDiff, Nat.reduceAdd, Nat.reduceSub, Nat.reduceMul, Nat.reduceLeDiff, Nat.reduceLT, Nat.reduceBEq, Int.reduceToNat, Int.reduceLE, Int.reduceLT, Int.reduceEq, Int.reduceNe, Int.reduceAdd, Int.reduceSub, Int.reduceNeg, Int.toNat_natCast, Int.cast_ofNat_Int, Int.natCast_zero, Int.natCast_one, reduceCtorEq, reduceIte, Nat.lt_irrefl, and_self, not_false_eq_true, not_true_eq_false, Ins.v, Ins.row, c2, hnll, hnlz, hxr, j0, j1, j2, y0, y1, w1, w2, w3, Option.some.injEq, forall_eq', List.drop_one, List.tail_cons]
      refine ⟨by omega, by omega, ?_⟩
      exact ih2 _ (j + 1) (by omega) (by omega) (by simp only [hz2]; simp -implicitDefEqProofs only [go_sem, Nat.reduceEqDiff, Nat.reduceAdd, Nat.reduceSub, Nat.reduceMul, Nat.reduceLeDiff, Nat.reduceLT, Nat.reduceBEq, Int.reduceToNat, Int.reduceLE, Int.reduceLT, Int.reduceEq, Int.reduceNe, Int.reduceAdd, Int.reduceSub, Int.reduceNeg, Int.toNat_natCast, Int.cast_ofNat_Int, Int.natCast_zero, Int.natCast_one, reduceCtorEq, reduceIte, Nat.lt_irrefl, and_self, not_false_eq_true, not_true_eq_false, Ins.v, Ins.row])
    · have e : j = nl.length := by omega
      subst e
      rw [List.take_length]
      simp -implicitDefEqProofs only [go_sem, Nat.reduceEqDiff, Nat.reduceAdd, Nat.reduceSub, Nat.reduceMul, Nat.reduceLeDiff, Nat.reduceLT, Nat.reduceBEq, Int.reduceToNat, Int.reduceLE, Int.reduceLT, Int.reduceEq, Int.reduceNe, Int.reduceAdd, Int.reduceSub, Int.reduceNeg, Int.toNat_natCast, Int.cast_ofNat_Int, Int.natCast_zero, Int.natCast_one, reduceCtorEq, reduceIte, Nat.lt_irrefl, and_self, not_false_eq_true, not_true_eq_false, Ins.v, Ins.row, c2, hnll]
      refine ⟨by omega, ?_⟩
      exact fin _ (fun x => f x || decide (x = k + 1) || decide ((x : Int) ∈ nl)) (fun x => by rw [hj, cast]; simp [Bool.or_assoc, Bool.or_comm, Bool.or_left_comm]) (by simp -implicitDefEqProofs only [go_sem, Nat.reduceEqDiff, Nat.reduceAdd, Nat.reduceSub, Nat.reduceMul, Nat.reduceLeDiff, Nat.reduceLT, Nat.reduceBEq, Int.reduceToNat, Int.reduceLE, Int.reduceLT, Int.reduceEq, Int.reduceNe, Int.reduceAdd, Int.reduceSub, Int.reduceNeg, Int.toNat_natCast, Int.cast_ofNat_Int, Int.natCast_zero, Int.natCast_one, reduceCtorEq, reduceIte, Nat.lt_irrefl, and_self, not_false_eq_true, not_true_eq_false, Ins.v, Ins.row])
end Go.Proofs.YtccghnpcfkifjaaDoor
