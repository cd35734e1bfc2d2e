/-
  What 'flow.Blocks' answers. No condition.
-/
import Derived.Test.YtccghnpcfkifjaaDoorBlkT
import Derived.Test.YtccghnpcfkifjaaDoorMapT
import Derived.Test.YtccghnpcfkifjaaDoorFlowS
set_option linter.unusedVariables false
set_option linter.unusedSimpArgs false
set_option maxRecDepth 100000
set_option maxHeartbeats 0
namespace Go.Proofs.YtccghnpcfkifjaaDoor
open Go.Abs
attribute [local irreducible] CallS Run
-- EV: Ins.v, Ins.row

def rowB (b : Int × Int) : List V := [.int .i64 b.1, .int .i64 b.2, .nils]
def rowN (code : List Ins) (b : Int × Int) : List V := [.int .i64 b.1, .int .i64 b.2, .isl (((nextL code (b.2 - 1)).map (numB code)).map zrw)]
def blkL (code : List Ins) : List (Int × Int) := blkT code code.length

theorem stT_jump {code : List Ins} {n : Nat} {i : Ins} (hi : code[n]? = some i) (hj : isJump i.op = true) : (fun k => stT code n k || decide (k ∈ nextL code n) || decide (k = (n : Int) + 1)) = stT code (n + 1) := by
  funext k; rw [stT_succ]; unfold mkB; rw [hi]; simp [hj, Bool.or_assoc]
theorem stT_stop {code : List Ins} {n : Nat} {i : Ins} (hi : code[n]? = some i) (hj : isJump i.op = false) (hf : falls i.op = false) : (fun k => stT code n k || decide (k = (n : Int) + 1)) = stT code (n + 1) := by
  funext k; rw [stT_succ]; unfold mkB; rw [hi]; simp [hj, hf]
theorem stT_fall {code : List Ins} {n : Nat} {i : Ins} (hi : code[n]? = some i) (hj : isJump i.op = false) (hf : falls i.op = true) : stT code (n + 1) = stT code n := by
  funext k; rw [stT_succ]; unfold mkB; rw [hi]; simp [hj, hf]

theorem mnum_nil0 (code : List Ins) : MNum [] (numT code 0) := MNum.nil.of (by funext k; unfold numT; rw [if_neg]; intro h; omega)
theorem numT_yes {code : List Ins} {k : Nat} (hs : stB code k = true) : (fun z => if z = (k : Int) then some (blkT code k).length else numT code k z) = numT code (k + 1) := by
  funext z
  unfold numT
  by_cases c : z = k
  · subst c; simp [hs]; omega
  · rw [if_neg c]
    have : (0 ≤ z ∧ z < ((k + 1 : Nat) : Int) ∧ stB code z = true) = (0 ≤ z ∧ z < (k : Int) ∧ stB code z = true) := by rw [eq_iff_iff]; constructor <;> rintro ⟨h1, h2, h3⟩ <;> exact ⟨h1, by omega, h3⟩
    simp only [this]
theorem numT_no {code : List Ins} {k : Nat} (hs : stB code k = false) : numT code (k + 1) = numT code k := by
  funext z
  unfold numT
  have : (0 ≤ z ∧ z < ((k + 1 : Nat) : Int) ∧ stB code z = true) = (0 ≤ z ∧ z < (k : Int) ∧ stB code z = true) := by
    rw [eq_iff_iff]
    constructor
    · rintro ⟨h1, h2, h3⟩
      by_cases c : z = k
      · subst c; rw [hs] at h3; cases h3
      · exact ⟨h1, by omega, h3⟩
    · rintro ⟨h1, h2, h3⟩; exact ⟨h1, by omega, h3⟩
  simp only [this]
theorem num_found {code : List Ins} {ns : List (V × V)} (hN : MNum ns (numT code code.length)) {t : Int} (h : stB code t = true ∧ 0 ≤ t ∧ t < code.length) : mfind (.int .i64 t) ns = some (.int .i64 (numB code t)) := by
  rw [hN.find]
  have : numT code code.length t = some (blkT code t.toNat).length := by unfold numT; rw [if_pos ⟨h.2.1, h.2.2, h.1⟩]
  unfold numB
  rw [this]; rfl

/-- The rows when the successors of the first 'j' blocks are known. -/
def rows3 (code : List Ins) (bl : List (Int × Int)) (j : Nat) : List (List V) := (bl.take j).map (rowN code) ++ (bl.drop j).map rowB
theorem rows3_zero (code : List Ins) (bl : List (Int × Int)) : rows3 code bl 0 = bl.map rowB := by simp [rows3]
theorem rows3_all (code : List Ins) (bl : List (Int × Int)) : rows3 code bl bl.length = bl.map (rowN code) := by simp [rows3]
theorem rows3_len (code : List Ins) (bl : List (Int × Int)) (j : Nat) (h : j ≤ bl.length) : (rows3 code bl j).length = bl.length := by simp [rows3]; omega
theorem rows3_at (code : List Ins) {bl : List (Int × Int)} {j : Nat} {b : Int × Int} (h : bl[j]? = some b) : (rows3 code bl j)[j]? = some [.int .i64 b.1, .int .i64 b.2, .nils] := by
  have hj := (List.getElem?_eq_some_iff.1 h).1
  unfold rows3
  rw [List.getElem?_append_right (by simp; omega)]
  simp [Nat.min_eq_left (Nat.le_of_lt hj), h, rowB]
theorem rows3_set (code : List Ins) {bl : List (Int × Int)} {j : Nat} {b : Int × Int} (h : bl[j]? = some b) : (rows3 code bl j).set j (rowN code b) = rows3 code bl (j + 1) := by
  have hj := (List.getElem?_eq_some_iff.1 h).1
  unfold rows3
  rw [List.set_append_right _ _ (by simp; omega), List.drop_eq_getElem_cons hj, List.take_add_one, h]
  have : bl[j] = b := by
    have := List.getElem?_eq_getElem hj
    rw [h] at this; injection this with this; exact this.symm
  simp [Nat.min_eq_left (Nat.le_of_lt hj), this]

theorem SameB.setRow {sz j : Nat} {R : List (List V)} {r r2 : List V} (h : R[j]? = some r) (hs : SameL r r2) : SameB (.rows sz R) (.rows sz (R.set j r2)) :=
  .rows (by simp) fun i r' hi => by
    rw [List.getElem?_set] at hi
    split at hi
    · rename_i e
      subst e
      split at hi
      · injection hi with hi; subst hi; exact ⟨r, h, hs⟩
      · cases hi
    · exact ⟨r', hi, .refl _⟩
theorem FrzB.setRow {st sz j : Nat} {fs R : List (List V)} {r r2 : List V} (h : R[j]? = some r) (hs : FrzL st fs r r2) : FrzB st fs (.rows sz R) (.rows sz (R.set j r2)) :=
  .rows (by simp) fun i r' hi => by
    rw [List.getElem?_set] at hi
    split at hi
    · rename_i e
      subst e
      split at hi
      · injection hi with hi; subst hi; exact ⟨r, h, hs⟩
      · cases hi
    · exact ⟨r', hi, .same _⟩
theorem frzN (d : Nat) (h : Heap) (code : List Ins) (bl : List (Int × Int)) : (bl.map (rowN code)).map (fun r => r.map (frz d h)) = bl.map (rowN code) := by
  rw [List.map_map]
  refine List.map_congr_left fun b _ => ?_
  simp only [Function.comp, rowN, List.map_cons, List.map_nil, frz_int, frz_isl]
  rw [frzZ]

theorem blocks_pure (code : List Ins) (hc : code.length ≤ 10000) (c0 c1 c2 c3 c4 c6 c7 c8 c9 c10 : V) (hb0 : [c0, c1, c2, c3, c4, c6, c7, c8, c9, c10].map (V.sub lost) = [c0, c1, c2, c3, c4, c6, c7, c8, c9, c10]) :
    Pure Tryd.prog 19 [.agg [c0, c1, c2, c3, c4, .isl (code.map Ins.row), c6, c7, c8, c9, c10]] (.isl ((blkL code).map (rowN code))) := by
  refine Pure.of 2 (CallS.enter flow_Blocks_ok (Nat.le_of_ble_eq_true rfl) ?_)
  simp only [List.map_cons, List.map_nil, List.cons.injEq, and_true] at hb0
  have hnx := fun a => next_pure code a (by omega) c0 c1 c2 c3 c4 c6 c7 c8 c9 c10
  have hlen : (code.map Ins.row).length = code.length := List.length_map ..
  have hrow : ∀ (k : Nat) (x : Ins), code[k]? = some x → (code.map Ins.row)[k]? = some x.row := fun k x h => by rw [List.getElem?_map, h]; rfl
  have hsz : rowsz (code.map Ins.row) 5 = True := eq_true fun r hr => by obtain ⟨y, _, rfl⟩ := List.mem_map.1 hr; rfl
  have hsub : (code.map Ins.row).map (fun r => r.map (V.sub lost)) = code.map Ins.row := subI lost code
  generalize code.map Ins.row = es at *
  refine Run.go 100 ?_
  simp -implicitDefEqProofs only [go_sem, Nat.reduceEqDiff, Nat.reduceAdd, Nat.reduceSub, Nat.reduceMul, Nat.reduceLeDiff, Nat.reduceLT, Nat.reduceBEq, Int.reduceToNat, Int.reduceLE, Int.reduceLT, Int.reduceEq, Int.reduceNe, Int.reduceAdd, Int.reduceSub, Int.reduceNeg, Int.toNat_natCast, Int.cast_ofNat_Int, Int.natCast_zero, Int.natCast_one, reduceCtorEq, reduceIte, Nat.lt_irrefl, and_self, not_false_eq_true, not_true_eq_false, Ins.v, Ins.row, initSl, hlen]
  -- the beginnings
  refine Run.rounds (fun (x : Nat × List (V × V) × Nat) => ⟨[(21, .int .i64 x.1), (20, .int .i64 code.length), (19, .isl es), (3, .mp (19 * 10000 + 16) 1), (1, .ptr (19 * 10000 + 1) 0 0 0)], [((19 * 10000 + 16), 1, .map x.2.1), ((19 * 10000 + 1), 0, .rows 11 [[c0, c1, c2, c3, c4, .isl es, c6, c7, c8, c9, c10]])], x.2.2⟩)
    (fun x => x.1 ≤ code.length ∧ MSet x.2.1 (stT code x.1)) (fun x => code.length - x.1) (0, mset (.int .i64 0) (.bool true) [], 2) (by simp -implicitDefEqProofs only [go_sem, Nat.reduceEqDiff, Nat.reduceAdd, Nat.reduceSub, Nat.reduceMul, Nat.reduceLeDiff, Nat.reduceLT, Nat.reduceBEq, Int.reduceToNat, Int.reduceLE, Int.reduceLT, Int.reduceEq, Int.reduceNe, Int.reduceAdd, Int.reduceSub, Int.reduceNeg, Int.toNat_natCast, Int.cast_ofNat_Int, Int.natCast_zero, Int.natCast_one, reduceCtorEq, reduceIte, Nat.lt_irrefl, and_self, not_false_eq_true, not_true_eq_false, Ins.v, Ins.row, mset]) ⟨by simp only; omega, (MSet.nil.put 0).of (by funext k; simp [stT_zero])⟩ ?_
  rintro ⟨k, bs, m⟩ ⟨hk, hS⟩ ih
  simp only at hk hS ih ⊢
  have hz : ((k + 1 : Nat) : Int) = (k : Int) + 1 := by omega
  refine Run.unf flow_Blocks_l0_eq (Run.go 100 ?_)
  by_cases c : (k : Int) < code.length
  · obtain ⟨i, hi⟩ : ∃ i, code[k]? = some i := ⟨code[k]'(by omega), by simp⟩
    have hr := hrow k i hi
    have k0 : ((0 : Int) ≤ (k : Int)) = True := eq_true (by omega)
    have k1 : ((k : Int) < (code.length : Int)) = True := eq_true c
    have k2 : (k < code.length) = True := eq_true (by omega)
    have tp := target_pure i
    have fp := falls_pure i
    simp -implicitDefEqProofs only [go_sem, Nat.reduceEqDiff, Nat.reduceAdd, Nat.reduceSub, Nat.reduceMul, Nat.reduceLeDiff, Nat.reduceLT, Nat.reduceBEq, Int.reduceToNat, Int.reduceLE, Int.reduceLT, Int.reduceEq, Int.reduceNe, Int.reduceAdd, Int.reduceSub, Int.reduceNeg, Int.toNat_natCast, Int.cast_ofNat_Int, Int.natCast_zero, Int.natCast_one, reduceCtorEq, reduceIte, Nat.lt_irrefl, and_self, not_false_eq_true, not_true_eq_false, Ins.v, Ins.row, hlen, hr, hsz, k0, k1, k2, Option.some.injEq, forall_eq']
    refine CallS.pureF tp (by simp -implicitDefEqProofs only [go_sem, Nat.reduceEqDiff, Nat.reduceAdd, Nat.reduceSub, Nat.reduceMul, Nat.reduceLeDiff, Nat.reduceLT, Nat.reduceBEq, Int.reduceToNat, Int.reduceLE, Int.reduceLT, Int.reduceEq, Int.reduceNe, Int.reduceAdd, Int.reduceSub, Int.reduceNeg, Int.toNat_natCast, Int.cast_ofNat_Int, Int.natCast_zero, Int.natCast_one, reduceCtorEq, reduceIte, Nat.lt_irrefl, and_self, not_false_eq_true, not_true_eq_false, Ins.v, Ins.row]) ?_
    cases hj : isJump i.op with
    | false =>
      simp -implicitDefEqProofs only [go_sem, Nat.reduceEqDiff, Nat.reduceAdd, Nat.reduceSub, Nat.reduceMul, Nat.reduceLeDiff, Nat.reduceLT, Nat.reduceBEq, Int.reduceToNat, Int.reduceLE, Int.reduceLT, Int.reduceEq, Int.reduceNe, Int.reduceAdd, Int.reduceSub, Int.reduceNeg, Int.toNat_natCast, Int.cast_ofNat_Int, Int.natCast_zero, Int.natCast_one, reduceCtorEq, reduceIte, Nat.lt_irrefl, and_self, not_false_eq_true, not_true_eq_false, Ins.v, Ins.row, hj]
      refine CallS.pureF fp (by simp -implicitDefEqProofs only [go_sem, Nat.reduceEqDiff, Nat.reduceAdd, Nat.reduceSub, Nat.reduceMul, Nat.reduceLeDiff, Nat.reduceLT, Nat.reduceBEq, Int.reduceToNat, Int.reduceLE, Int.reduceLT, Int.reduceEq, Int.reduceNe, Int.reduceAdd, Int.reduceSub, Int.reduceNeg, Int.toNat_natCast, Int.cast_ofNat_Int, Int.natCast_zero, Int.natCast_one, reduceCtorEq, reduceIte, Nat.lt_irrefl, and_self, not_false_eq_true, not_true_eq_false, Ins.v, Ins.row]) ?_
      cases hf : falls i.op with
      | false =>
        have hkk := eq_true (hS.keys.ok ((k : Int) + 1))
        simp -implicitDefEqProofs only [go_sem, Nat.reduceEqDiff, Nat.reduceAdd, Nat.reduceSub, Nat.reduceMul, Nat.reduceLeDiff, Nat.reduceLT, Nat.reduceBEq, Int.reduceToNat, Int.reduceLE, Int.reduceLT, Int.reduceEq, Int.reduceNe, Int.reduceAdd, Int.reduceSub, Int.reduceNeg, Int.toNat_natCast, Int.cast_ofNat_Int, Int.natCast_zero, Int.natCast_one, reduceCtorEq, reduceIte, Nat.lt_irrefl, and_self, not_false_eq_true, not_true_eq_false, Ins.v, Ins.row, hkk]
        refine ⟨by omega, by omega, ?_⟩
        refine ih _ (k + 1, _, m + 1) ⟨by simp only; omega, (hS.put ((k : Int) + 1)).of (stT_stop hi hj hf)⟩ (by simp only; omega) ?_
        simp only [hz]
        simp -implicitDefEqProofs only [go_sem, Nat.reduceEqDiff, Nat.reduceAdd, Nat.reduceSub, Nat.reduceMul, Nat.reduceLeDiff, Nat.reduceLT, Nat.reduceBEq, Int.reduceToNat, Int.reduceLE, Int.reduceLT, Int.reduceEq, Int.reduceNe, Int.reduceAdd, Int.reduceSub, Int.reduceNeg, Int.toNat_natCast, Int.cast_ofNat_Int, Int.natCast_zero, Int.natCast_one, reduceCtorEq, reduceIte, Nat.lt_irrefl, and_self, not_false_eq_true, not_true_eq_false, Ins.v, Ins.row]
      | true =>
        simp -implicitDefEqProofs only [go_sem, Nat.reduceEqDiff, Nat.reduceAdd, Nat.reduceSub, Nat.reduceMul, Nat.reduceLeDiff, Nat.reduceLT, Nat.reduceBEq, Int.reduceToNat, Int.reduceLE, Int.reduceLT, Int.reduceEq, Int.reduceNe, Int.reduceAdd, Int.reduceSub, Int.reduceNeg, Int.toNat_natCast, Int.cast_ofNat_Int, Int.natCast_zero, Int.natCast_one, reduceCtorEq, reduceIte, Nat.lt_irrefl, and_self, not_false_eq_true, not_true_eq_false, Ins.v, Ins.row]
        refine ⟨by omega, ?_⟩
        refine ih _ (k + 1, bs, m + 1) ⟨by simp only; omega, hS.of (stT_fall hi hj hf).symm⟩ (by simp only; omega) ?_
        simp only [hz]
        simp -implicitDefEqProofs only [go_sem, Nat.reduceEqDiff, Nat.reduceAdd, Nat.reduceSub, Nat.reduceMul, Nat.reduceLeDiff, Nat.reduceLT, Nat.reduceBEq, Int.reduceToNat, Int.reduceLE, Int.reduceLT, Int.reduceEq, Int.reduceNe, Int.reduceAdd, Int.reduceSub, Int.reduceNeg, Int.toNat_natCast, Int.cast_ofNat_Int, Int.natCast_zero, Int.natCast_one, reduceCtorEq, reduceIte, Nat.lt_irrefl, and_self, not_false_eq_true, not_true_eq_false, Ins.v, Ins.row]
    | true =>
      simp -implicitDefEqProofs only [go_sem, Nat.reduceEqDiff, Nat.reduceAdd, Nat.reduceSub, Nat.reduceMul, Nat.reduceLeDiff, Nat.reduceLT, Nat.reduceBEq, Int.reduceToNat, Int.reduceLE, Int.reduceLT, Int.reduceEq, Int.reduceNe, Int.reduceAdd, Int.reduceSub, Int.reduceNeg, Int.toNat_natCast, Int.cast_ofNat_Int, Int.natCast_zero, Int.natCast_one, reduceCtorEq, reduceIte, Nat.lt_irrefl, and_self, not_false_eq_true, not_true_eq_false, Ins.v, Ins.row, hj]
      refine CallS.pure (hnx k) (by simp -implicitDefEqProofs only [go_sem, Nat.reduceEqDiff, Nat.reduceAdd, Nat.reduceSub, Nat.reduceMul, Nat.reduceLeDiff, Nat.reduceLT, Nat.reduceBEq, Int.reduceToNat, Int.reduceLE, Int.reduceLT, Int.reduceEq, Int.reduceNe, Int.reduceAdd, Int.reduceSub, Int.reduceNeg, Int.toNat_natCast, Int.cast_ofNat_Int, Int.natCast_zero, Int.natCast_one, reduceCtorEq, reduceIte, Nat.lt_irrefl, and_self, not_false_eq_true, not_true_eq_false, Ins.v, Ins.row, hsub, hb0]) ?_
      have hnl := nextL_len2 code k
      have hmem : (fun x => stT code k x || decide (x ∈ (nextL code k).take (nextL code k).length) || decide (x = (k : Int) + 1)) = stT code (k + 1) := by rw [List.take_length]; exact stT_jump hi hj
      generalize nextL code k = nl at *
      have hnls : ∀ (j : Nat) (x : Int), nl[j]? = some x → (nl.map zrw)[j]? = some [.int .i64 x] := fun j x h => by rw [List.getElem?_map, h]; rfl
      have hnll : (nl.map zrw).length = nl.length := List.length_map ..
      have hnlz : rowsz (nl.map zrw) 1 = True := eq_true fun r hr => by obtain ⟨y, _, rfl⟩ := List.mem_map.1 hr; rfl
      generalize nl.map zrw = nls at *
      simp -implicitDefEqProofs only [go_sem, Nat.reduceEqDiff, Nat.reduceAdd, Nat.reduceSub, Nat.reduceMul, Nat.reduceLeDiff, Nat.reduceLT, Nat.reduceBEq, Int.reduceToNat, Int.reduceLE, Int.reduceLT, Int.reduceEq, Int.reduceNe, Int.reduceAdd, Int.reduceSub, Int.reduceNeg, Int.toNat_natCast, Int.cast_ofNat_Int, Int.natCast_zero, Int.natCast_one, reduceCtorEq, reduceIte, Nat.lt_irrefl, and_self, not_false_eq_true, not_true_eq_false, Ins.v, Ins.row, hnll]
      refine Run.rounds (fun (x : Nat × List (V × V)) => ⟨[(36, .int .i64 x.1), (35, .int .i64 nl.length), (34, .isl nls), (21, .int .i64 k), (20, .int .i64 code.length), (19, .isl es), (7, .bool true), (5, .ptr (19 * 10000 + 5) m 0 0), (4, .int .i64 k), (3, .mp (19 * 10000 + 16) 1), (1, .ptr (19 * 10000 + 1) 0 0 0)],
          [((19 * 10000 + 16), 1, .map x.2), ((19 * 10000 + 5), m, .rows 5 [i.row]), ((19 * 10000 + 1), 0, .rows 11 [[c0, c1, c2, c3, c4, .isl es, c6, c7, c8, c9, c10]])], m + 1⟩)
        (fun x => x.1 ≤ nl.length ∧ MSet x.2 (fun z => stT code k z || decide (z ∈ nl.take x.1))) (fun x => nl.length - x.1) (0, bs) (by simp -implicitDefEqProofs only [go_sem, Nat.reduceEqDiff, Nat.reduceAdd, Nat.reduceSub, Nat.reduceMul, Nat.reduceLeDiff, Nat.reduceLT, Nat.reduceBEq, Int.reduceToNat, Int.reduceLE, Int.reduceLT, Int.reduceEq, Int.reduceNe, Int.reduceAdd, Int.reduceSub, Int.reduceNeg, Int.toNat_natCast, Int.cast_ofNat_Int, Int.natCast_zero, Int.natCast_one, reduceCtorEq, reduceIte, Nat.lt_irrefl, and_self, not_false_eq_true, not_true_eq_false, Ins.v, Ins.row]) ⟨by simp only; omega, hS.of (by funext z; simp)⟩ ?_
      rintro ⟨j, bs2⟩ ⟨hj2, hS2⟩ ih2
      simp only at hj2 hS2 ih2 ⊢
      have hz2 : ((j + 1 : Nat) : Int) = (j : Int) + 1 := by omega
      refine Run.unf flow_Blocks_l1_eq (Run.go 100 ?_)
      by_cases c2 : (j : Int) < nl.length
      · obtain ⟨x, hx⟩ : ∃ x, nl[j]? = some x := ⟨nl[j]'(by omega), by simp⟩
        have hxr := hnls j x hx
        have j0 : ((0 : Int) ≤ (j : Int)) = True := eq_true (by omega)
        have j1 : ((j : Int) < (nl.length : Int)) = True := eq_true c2
        have j2 : (j < nl.length) = True := eq_true (by omega)
        have hkx := eq_true (hS2.keys.ok x)
        simp -implicitDefEqProofs only [go_sem, Nat.reduceEqDiff, Nat.reduceAdd, Nat.reduceSub, Nat.reduceMul, Nat.reduceLeDiff, Nat.reduceLT, Nat.reduceBEq, Int.reduceToNat, Int.reduceLE, Int.reduceLT, Int.reduceEq, Int.reduceNe, Int.reduceAdd, Int.reduceSub, Int.reduceNeg, Int.toNat_natCast, Int.cast_ofNat_Int, Int.natCast_zero, Int.natCast_one, reduceCtorEq, reduceIte, Nat.lt_irrefl, and_self, not_false_eq_true, not_true_eq_false, Ins.v, Ins.row, hnll, hnlz, hxr, j0, j1, j2, hkx, Option.some.injEq, forall_eq']
        refine ⟨by omega, ?_⟩
        refine ih2 _ (j + 1, _) ⟨by simp only; omega, (hS2.put x).of (by funext z; rw [List.take_add_one, hx]; simp [Bool.or_assoc])⟩ (by simp only; omega) ?_
        simp only [hz2]
        simp -implicitDefEqProofs only [go_sem, Nat.reduceEqDiff, Nat.reduceAdd, Nat.reduceSub, Nat.reduceMul, Nat.reduceLeDiff, Nat.reduceLT, Nat.reduceBEq, Int.reduceToNat, Int.reduceLE, Int.reduceLT, Int.reduceEq, Int.reduceNe, Int.reduceAdd, Int.reduceSub, Int.reduceNeg, Int.toNat_natCast, Int.cast_ofNat_Int, Int.natCast_zero, Int.natCast_one, reduceCtorEq, reduceIte, Nat.lt_irrefl, and_self, not_false_eq_true, not_true_eq_false, Ins.v, Ins.row]
      · have e : j = nl.length := by omega
        subst e
        have hkk := eq_true (hS2.keys.ok ((k : Int) + 1))
        simp -implicitDefEqProofs only [go_sem, Nat.reduceEqDiff, Nat.reduceAdd, Nat.reduceSub, Nat.reduceMul, Nat.reduceLeDiff, Nat.reduceLT, Nat.reduceBEq, Int.reduceToNat, Int.reduceLE, Int.reduceLT, Int.reduceEq, Int.reduceNe, Int.reduceAdd, Int.reduceSub, Int.reduceNeg, Int.toNat_natCast, Int.cast_ofNat_Int, Int.natCast_zero, Int.natCast_one, reduceCtorEq, reduceIte, Nat.lt_irrefl, and_self, not_false_eq_true, not_true_eq_false, Ins.v, Ins.row, c2, hnll, hkk]
        refine ⟨by omega, by omega, ?_⟩
        refine ih _ (k + 1, _, m + 1) ⟨by simp only; omega, (hS2.put ((k : Int) + 1)).of hmem⟩ (by simp only; omega) ?_
        simp only [hz]
        simp -implicitDefEqProofs only [go_sem, Nat.reduceEqDiff, Nat.reduceAdd, Nat.reduceSub, Nat.reduceMul, Nat.reduceLeDiff, Nat.reduceLT, Nat.reduceBEq, Int.reduceToNat, Int.reduceLE, Int.reduceLT, Int.reduceEq, Int.reduceNe, Int.reduceAdd, Int.reduceSub, Int.reduceNeg, Int.toNat_natCast, Int.cast_ofNat_Int, Int.natCast_zero, Int.natCast_one, reduceCtorEq, reduceIte, Nat.lt_irrefl, and_self, not_false_eq_true, not_true_eq_false, Ins.v, Ins.row]
  have e : k = code.length := by omega
  subst e
  clear ih
  have hB : MSet bs (stB code) := hS
  simp -implicitDefEqProofs only [go_sem, Nat.reduceEqDiff, Nat.reduceAdd, Nat.reduceSub, Nat.reduceMul, Nat.reduceLeDiff, Nat.reduceLT, Nat.reduceBEq, Int.reduceToNat, Int.reduceLE, Int.reduceLT, Int.reduceEq, Int.reduceNe, Int.reduceAdd, Int.reduceSub, Int.reduceNeg, Int.toNat_natCast, Int.cast_ofNat_Int, Int.natCast_zero, Int.natCast_one, reduceCtorEq, reduceIte, Nat.lt_irrefl, and_self, not_false_eq_true, not_true_eq_false, Ins.v, Ins.row, c, hlen]
  -- the blocks and their numbers
  refine Run.roundsK (fun (x : Nat × List (V × V) × Nat × Nat) => ⟨[(57, .int .i64 x.1), (56, .int .i64 code.length), (11, .mp (19 * 10000 + 53) m), (10, .sl (19 * 10000 + 71) x.2.2.1 0 (blkT code x.1).length), (3, .mp (19 * 10000 + 16) 1), (1, .ptr (19 * 10000 + 1) 0 0 0)],
      [((19 * 10000 + 71), x.2.2.1, .rows 3 ((blkT code x.1).map rowB)), ((19 * 10000 + 53), m, .map x.2.1), ((19 * 10000 + 16), 1, .map bs), ((19 * 10000 + 1), 0, .rows 11 [[c0, c1, c2, c3, c4, .isl es, c6, c7, c8, c9, c10]])], x.2.2.2⟩)
    (fun x => x.1 ≤ code.length ∧ MNum x.2.1 (numT code x.1)) (fun x => code.length - x.1) (0, [], m + 1, m + 2) ?_ ⟨by simp only; omega, mnum_nil0 code⟩ ?_
  · refine .trans (.fresh (19 * 10000 + 71) 3 _ _ _) (.turn id ?_ ?_)
    · exact ⟨.refl _, .refl _, .refl _, .nils, .refl _, .refl _, trivial⟩
    · exact .at 0 rfl rfl (.refl _) (.at 1 rfl rfl (.refl _) (.at 2 rfl rfl (.refl _) (.at 3 rfl rfl (.refl _) trivial)))
  rintro ⟨k, ns, st, m2⟩ ⟨hk, hN⟩ ih
  simp only at hk hN ih ⊢
  have hz : ((k + 1 : Nat) : Int) = (k : Int) + 1 := by omega
  refine Run.unf flow_Blocks_l2_eq (Run.go 100 ?_)
  by_cases c : (k : Int) < code.length
  · have hfk := hB.find k
    have hok := eq_true (hB.keys.ok k)
    have hLle := blkT_len_le code k
    cases hs : stB code k with
    | true =>
      rw [hs] at hfk
      simp only [if_true] at hfk
      have hnk := (hN.put k (blkT code k).length).of (numT_yes hs)
      have hy := blkT_yes hs
      have hRl : ((blkT code k).map rowB).length = (blkT code k).length := List.length_map ..
      have hR1 : ((blkT code (k + 1)).map rowB) = (blkT code k).map rowB ++ [[.int .i64 k, .int .i64 ((k : Int) + 1), .nils]] := by rw [hy]; simp [rowB]
      have hl1 : (blkT code (k + 1)).length = (blkT code k).length + 1 := by rw [hy]; simp
      generalize (blkT code k).map rowB = RB at *
      generalize (blkT code k).length = L at *
      have hokn := eq_true (hN.keys.ok k)
      have q1 : ((0 : Int) ≤ ((L + 1 : Nat) : Int) - 1) = True := eq_true (by omega)
      have q2 : ((((L + 1 : Nat) : Int) - 1) < ((L + 1 : Nat) : Int)) = True := eq_true (by omega)
      have q3 : (((L + 1 : Nat) : Int) - 1).toNat = L := by omega
      have q4 : (RB ++ [[V.int .i64 k, .int .i64 0, .nils]])[L]? = some [.int .i64 k, .int .i64 0, .nils] := by rw [← hRl]; simp
      have q5 : (RB ++ [[V.int .i64 k, .int .i64 0, .nils]]).set L [.int .i64 k, .int .i64 ((k : Int) + 1), .nils] = RB ++ [[.int .i64 k, .int .i64 ((k : Int) + 1), .nils]] := by rw [← hRl]; simp
      have q6 : RB.take L = RB := List.take_of_length_le (by omega)
      simp -implicitDefEqProofs only [go_sem, Nat.reduceEqDiff, Nat.reduceAdd, Nat.reduceSub, Nat.reduceMul, Nat.reduceLeDiff, Nat.reduceLT, Nat.reduceBEq, Int.reduceToNat, Int.reduceLE, Int.reduceLT, Int.reduceEq, Int.reduceNe, Int.reduceAdd, Int.reduceSub, Int.reduceNeg, Int.toNat_natCast, Int.cast_ofNat_Int, Int.natCast_zero, Int.natCast_one, reduceCtorEq, reduceIte, Nat.lt_irrefl, and_self, not_false_eq_true, not_true_eq_false, Ins.v, Ins.row, c, hok, hfk, hokn, hRl, q1, q2, q3, q4, q5, q6, Option.some.injEq, forall_eq']
      refine ⟨by omega, by omega, by omega, by omega, by omega, ?_⟩
      refine ih _ (k + 1, _, m2, m2 + 1) ⟨by simp only; omega, hnk⟩ (by simp only; omega) (Weak.wk ?_)
      simp only [hz, hR1, hl1]
      simp -implicitDefEqProofs only [go_sem, Nat.reduceEqDiff, Nat.reduceAdd, Nat.reduceSub, Nat.reduceMul, Nat.reduceLeDiff, Nat.reduceLT, Nat.reduceBEq, Int.reduceToNat, Int.reduceLE, Int.reduceLT, Int.reduceEq, Int.reduceNe, Int.reduceAdd, Int.reduceSub, Int.reduceNeg, Int.toNat_natCast, Int.cast_ofNat_Int, Int.natCast_zero, Int.natCast_one, reduceCtorEq, reduceIte, Nat.lt_irrefl, and_self, not_false_eq_true, not_true_eq_false, Ins.v, Ins.row]
    | false =>
      rw [hs] at hfk
      simp only [Bool.false_eq_true, if_false] at hfk
      have h0 : 0 < k := by
        rcases Nat.eq_zero_or_pos k with rfl | h
        · rw [show ((0 : Nat) : Int) = 0 from rfl, stB_zero] at hs; cases hs
        · exact h
      rcases nil_or_snoc (blkT code k) with e | ⟨l, b, e⟩
      · exact absurd e (blkT_ne code k h0)
      have hy := blkT_no hs e
      have hnk : MNum ns (numT code (k + 1)) := hN.of (numT_no hs).symm
      have hl1 : (blkT code (k + 1)).length = l.length + 1 := by rw [hy]; simp
      have hl0 : (blkT code k).length = l.length + 1 := by rw [e]; simp
      have hR1 : ((blkT code (k + 1)).map rowB) = l.map rowB ++ [[.int .i64 b.1, .int .i64 ((k : Int) + 1), .nils]] := by rw [hy]; simp [rowB]
      have hR0 : ((blkT code k).map rowB) = l.map rowB ++ [[.int .i64 b.1, .int .i64 b.2, .nils]] := by rw [e]; simp [rowB]
      rw [hl0] at hLle ⊢
      rw [hR0]
      have hRl : (l.map rowB).length = l.length := List.length_map ..
      generalize l.map rowB = RB at *
      generalize l.length = L at *
      have q1 : ((0 : Int) ≤ ((L + 1 : Nat) : Int) - 1) = True := eq_true (by omega)
      have q2 : ((((L + 1 : Nat) : Int) - 1) < ((L + 1 : Nat) : Int)) = True := eq_true (by omega)
      have q3 : (((L + 1 : Nat) : Int) - 1).toNat = L := by omega
      have q4 : (RB ++ [[V.int .i64 b.1, .int .i64 b.2, .nils]])[L]? = some [.int .i64 b.1, .int .i64 b.2, .nils] := by rw [← hRl]; simp
      have q5 : (RB ++ [[V.int .i64 b.1, .int .i64 b.2, .nils]]).set L [.int .i64 b.1, .int .i64 ((k : Int) + 1), .nils] = RB ++ [[.int .i64 b.1, .int .i64 ((k : Int) + 1), .nils]] := by rw [← hRl]; simp
      simp -implicitDefEqProofs only [go_sem, Nat.reduceEqDiff, Nat.reduceAdd, Nat.reduceSub, Nat.reduceMul, Nat.reduceLeDiff, Nat.reduceLT, Nat.reduceBEq, Int.reduceToNat, Int.reduceLE, Int.reduceLT, Int.reduceEq, Int.reduceNe, Int.reduceAdd, Int.reduceSub, Int.reduceNeg, Int.toNat_natCast, Int.cast_ofNat_Int, Int.natCast_zero, Int.natCast_one, reduceCtorEq, reduceIte, Nat.lt_irrefl, and_self, not_false_eq_true, not_true_eq_false, Ins.v, Ins.row, c, hok, hfk, hRl, q1, q2, q3, q4, q5, Option.some.injEq, forall_eq']
      refine ⟨by omega, by omega, by omega, by omega, ?_⟩
      refine ih _ (k + 1, ns, st, m2) ⟨by simp only; omega, hnk⟩ (by simp only; omega) (Weak.wk ?_)
      simp only [hz, hR1, hl1]
      simp -implicitDefEqProofs only [go_sem, Nat.reduceEqDiff, Nat.reduceAdd, Nat.reduceSub, Nat.reduceMul, Nat.reduceLeDiff, Nat.reduceLT, Nat.reduceBEq, Int.reduceToNat, Int.reduceLE, Int.reduceLT, Int.reduceEq, Int.reduceNe, Int.reduceAdd, Int.reduceSub, Int.reduceNeg, Int.toNat_natCast, Int.cast_ofNat_Int, Int.natCast_zero, Int.natCast_one, reduceCtorEq, reduceIte, Nat.lt_irrefl, and_self, not_false_eq_true, not_true_eq_false, Ins.v, Ins.row]
  have e : k = code.length := by omega
  subst e
  clear ih
  have hbl : ∀ b ∈ blkT code code.length, ∀ t ∈ nextL code (b.2 - 1), mfind (.int .i64 t) ns = some (.int .i64 (numB code t)) := fun b hb t ht => num_found hN (next_start hb ht)
  have hkey := fun t => eq_true (hN.keys.ok t)
  have hble := blkT_len_le code code.length
  have hpos := (bi_at code code.length).pos
  have hbe : blkT code code.length = blkL code := rfl
  rw [hbe] at hbl hble hpos ⊢
  generalize hb : blkL code = bl at *
  simp -implicitDefEqProofs only [go_sem, Nat.reduceEqDiff, Nat.reduceAdd, Nat.reduceSub, Nat.reduceMul, Nat.reduceLeDiff, Nat.reduceLT, Nat.reduceBEq, Int.reduceToNat, Int.reduceLE, Int.reduceLT, Int.reduceEq, Int.reduceNe, Int.reduceAdd, Int.reduceSub, Int.reduceNeg, Int.toNat_natCast, Int.cast_ofNat_Int, Int.natCast_zero, Int.natCast_one, reduceCtorEq, reduceIte, Nat.lt_irrefl, and_self, not_false_eq_true, not_true_eq_false, Ins.v, Ins.row, c]
  -- their successors
  refine Run.roundsK (fun (x : Nat × Nat) => ⟨[(83, .int .i64 x.1), (82, .int .i64 bl.length), (11, .mp (19 * 10000 + 53) m), (10, .sl (19 * 10000 + 71) st 0 bl.length), (1, .ptr (19 * 10000 + 1) 0 0 0)],
      [((19 * 10000 + 71), st, .rows 3 (rows3 code bl x.1)), ((19 * 10000 + 53), m, .map ns), ((19 * 10000 + 1), 0, .rows 11 [[c0, c1, c2, c3, c4, .isl es, c6, c7, c8, c9, c10]])], x.2⟩)
    (fun x => x.1 ≤ bl.length) (fun x => bl.length - x.1) (0, m2) (Weak.wk (by simp -implicitDefEqProofs only [go_sem, Nat.reduceEqDiff, Nat.reduceAdd, Nat.reduceSub, Nat.reduceMul, Nat.reduceLeDiff, Nat.reduceLT, Nat.reduceBEq, Int.reduceToNat, Int.reduceLE, Int.reduceLT, Int.reduceEq, Int.reduceNe, Int.reduceAdd, Int.reduceSub, Int.reduceNeg, Int.toNat_natCast, Int.cast_ofNat_Int, Int.natCast_zero, Int.natCast_one, reduceCtorEq, reduceIte, Nat.lt_irrefl, and_self, not_false_eq_true, not_true_eq_false, Ins.v, Ins.row, rows3_zero])) (by simp only; omega) ?_
  rintro ⟨j, m3⟩ hj ih
  simp only at hj ih ⊢
  have hz : ((j + 1 : Nat) : Int) = (j : Int) + 1 := by omega
  refine Run.unf flow_Blocks_l3_eq (Run.go 100 ?_)
  by_cases c : (j : Int) < bl.length
  rotate_left
  · have e : j = bl.length := by omega
    subst e
    simp -implicitDefEqProofs only [go_sem, Nat.reduceEqDiff, Nat.reduceAdd, Nat.reduceSub, Nat.reduceMul, Nat.reduceLeDiff, Nat.reduceLT, Nat.reduceBEq, Int.reduceToNat, Int.reduceLE, Int.reduceLT, Int.reduceEq, Int.reduceNe, Int.reduceAdd, Int.reduceSub, Int.reduceNeg, Int.toNat_natCast, Int.cast_ofNat_Int, Int.natCast_zero, Int.natCast_one, reduceCtorEq, reduceIte, Nat.lt_irrefl, and_self, not_false_eq_true, not_true_eq_false, Ins.v, Ins.row, c]
    rw [if_pos (by rw [rows3_len _ _ _ (Nat.le_refl _)]; exact Nat.le_refl _), List.take_of_length_le (by rw [rows3_len _ _ _ (Nat.le_refl _)]; exact Nat.le_refl _), rows3_all]
    exact congrArg V.isl (frzN _ _ _ _)
  obtain ⟨b, hbj⟩ : ∃ b, bl[j]? = some b := ⟨bl[j]'(by omega), by simp⟩
  have hbm := List.mem_of_getElem? hbj
  have hbt := hbl b hbm
  have hbp := hpos b hbm
  have hr3 := rows3_at code hbj
  have hr3s := rows3_set code hbj
  have hr3l : (rows3 code bl j).length = bl.length := rows3_len code bl j (by omega)
  generalize rows3 code bl j = R at *
  have k0 : ((0 : Int) ≤ (j : Int)) = True := eq_true (by omega)
  have k1 : ((j : Int) < (bl.length : Int)) = True := eq_true c
  have k2 : (j < bl.length) = True := eq_true (by omega)
  simp -implicitDefEqProofs only [go_sem, Nat.reduceEqDiff, Nat.reduceAdd, Nat.reduceSub, Nat.reduceMul, Nat.reduceLeDiff, Nat.reduceLT, Nat.reduceBEq, Int.reduceToNat, Int.reduceLE, Int.reduceLT, Int.reduceEq, Int.reduceNe, Int.reduceAdd, Int.reduceSub, Int.reduceNeg, Int.toNat_natCast, Int.cast_ofNat_Int, Int.natCast_zero, Int.natCast_one, reduceCtorEq, reduceIte, Nat.lt_irrefl, and_self, not_false_eq_true, not_true_eq_false, Ins.v, Ins.row, c, hr3, hr3l, k0, k1, k2, Option.some.injEq, forall_eq']
  refine ⟨by omega, ?_⟩
  refine CallS.pure (hnx (b.2 - 1)) (by simp -implicitDefEqProofs only [go_sem, Nat.reduceEqDiff, Nat.reduceAdd, Nat.reduceSub, Nat.reduceMul, Nat.reduceLeDiff, Nat.reduceLT, Nat.reduceBEq, Int.reduceToNat, Int.reduceLE, Int.reduceLT, Int.reduceEq, Int.reduceNe, Int.reduceAdd, Int.reduceSub, Int.reduceNeg, Int.toNat_natCast, Int.cast_ofNat_Int, Int.natCast_zero, Int.natCast_one, reduceCtorEq, reduceIte, Nat.lt_irrefl, and_self, not_false_eq_true, not_true_eq_false, Ins.v, Ins.row, hsub, hb0]) ?_
  have hnl := nextL_len2 code (b.2 - 1)
  have hrN : rowN code b = [.int .i64 b.1, .int .i64 b.2, .isl (((nextL code (b.2 - 1)).map (numB code)).map zrw)] := rfl
  rw [hrN] at hr3s
  clear hrN
  generalize nextL code (b.2 - 1) = nl at *
  have hset : ∀ r : List V, (R.set j r)[j]? = some r := fun r => by rw [List.getElem?_set, if_pos rfl, if_pos (by omega)]
  match nl, hnl with
  | [], _ =>
    simp -implicitDefEqProofs only [go_sem, Nat.reduceEqDiff, Nat.reduceAdd, Nat.reduceSub, Nat.reduceMul, Nat.reduceLeDiff, Nat.reduceLT, Nat.reduceBEq, Int.reduceToNat, Int.reduceLE, Int.reduceLT, Int.reduceEq, Int.reduceNe, Int.reduceAdd, Int.reduceSub, Int.reduceNeg, Int.toNat_natCast, Int.cast_ofNat_Int, Int.natCast_zero, Int.natCast_one, reduceCtorEq, reduceIte, Nat.lt_irrefl, and_self, not_false_eq_true, not_true_eq_false, Ins.v, Ins.row, List.map_nil, List.length_nil]
    refine Run.loop (Run.unf flow_Blocks_l4_eq (Run.go 100 ?_))
    simp -implicitDefEqProofs only [go_sem, Nat.reduceEqDiff, Nat.reduceAdd, Nat.reduceSub, Nat.reduceMul, Nat.reduceLeDiff, Nat.reduceLT, Nat.reduceBEq, Int.reduceToNat, Int.reduceLE, Int.reduceLT, Int.reduceEq, Int.reduceNe, Int.reduceAdd, Int.reduceSub, Int.reduceNeg, Int.toNat_natCast, Int.cast_ofNat_Int, Int.natCast_zero, Int.natCast_one, reduceCtorEq, reduceIte, Nat.lt_irrefl, and_self, not_false_eq_true, not_true_eq_false, Ins.v, Ins.row, List.length_nil]
    refine ⟨by omega, ih _ (j + 1, m3) (by simp only; omega) (by simp only; omega) ?_⟩
    simp only [hz, ← hr3s]
    exact .turn id ⟨.refl _, .refl _, .refl _, .refl _, .refl _, trivial⟩ (.at 0 rfl rfl (SameB.setRow hr3 ⟨.refl _, .refl _, .nilI, trivial⟩) (.at 1 rfl rfl (.refl _) (.at 2 rfl rfl (.refl _) trivial)))
  | [x], _ =>
    have hx := hbt x (by simp)
    have hkx := hkey x
    have z1 : rowsz [zrw x] 1 = True := eq_true (rowszB_iff rfl)
    simp -implicitDefEqProofs only [go_sem, Nat.reduceEqDiff, Nat.reduceAdd, Nat.reduceSub, Nat.reduceMul, Nat.reduceLeDiff, Nat.reduceLT, Nat.reduceBEq, Int.reduceToNat, Int.reduceLE, Int.reduceLT, Int.reduceEq, Int.reduceNe, Int.reduceAdd, Int.reduceSub, Int.reduceNeg, Int.toNat_natCast, Int.cast_ofNat_Int, Int.natCast_zero, Int.natCast_one, reduceCtorEq, reduceIte, Nat.lt_irrefl, and_self, not_false_eq_true, not_true_eq_false, Ins.v, Ins.row, List.map_nil, List.map_cons, List.length_cons, List.length_nil]
    refine Run.loop (Run.unf flow_Blocks_l4_eq (Run.go 100 ?_))
    simp -implicitDefEqProofs only [go_sem, Nat.reduceEqDiff, Nat.reduceAdd, Nat.reduceSub, Nat.reduceMul, Nat.reduceLeDiff, Nat.reduceLT, Nat.reduceBEq, Int.reduceToNat, Int.reduceLE, Int.reduceLT, Int.reduceEq, Int.reduceNe, Int.reduceAdd, Int.reduceSub, Int.reduceNeg, Int.toNat_natCast, Int.cast_ofNat_Int, Int.natCast_zero, Int.natCast_one, reduceCtorEq, reduceIte, Nat.lt_irrefl, and_self, not_false_eq_true, not_true_eq_false, Ins.v, Ins.row, z1, hx, hkx, hr3, hr3l, k0, k1, k2, zrw, List.length_cons, List.length_nil, Option.some.injEq, forall_eq']
    refine Run.lp (Run.unf flow_Blocks_l4_eq (Run.go 100 ?_))
    simp -implicitDefEqProofs only [go_sem, Nat.reduceEqDiff, Nat.reduceAdd, Nat.reduceSub, Nat.reduceMul, Nat.reduceLeDiff, Nat.reduceLT, Nat.reduceBEq, Int.reduceToNat, Int.reduceLE, Int.reduceLT, Int.reduceEq, Int.reduceNe, Int.reduceAdd, Int.reduceSub, Int.reduceNeg, Int.toNat_natCast, Int.cast_ofNat_Int, Int.natCast_zero, Int.natCast_one, reduceCtorEq, reduceIte, Nat.lt_irrefl, and_self, not_false_eq_true, not_true_eq_false, Ins.v, Ins.row, List.length_cons, List.length_nil]
    refine ⟨by omega, ih _ (j + 1, m3 + 1) (by simp only; omega) (by simp only; omega) ?_⟩
    simp only [hz, ← hr3s]
    refine .freeze (b := (19 * 10000 + 110)) (st := m3) (sz := 1) (rs := [[.int .i64 (numB code x)]]) ?_ ⟨.of (.refl _), .of (.refl _), .of (.refl _), .of (.refl _), .of (.refl _), trivial⟩ ⟨⟨_, List.mem_cons_self, by simp, ?_⟩, ⟨_, List.mem_cons_of_mem _ (List.mem_cons_of_mem _ List.mem_cons_self), by simp, .of (.refl _)⟩, ⟨_, List.mem_cons_of_mem _ (List.mem_cons_of_mem _ (List.mem_cons_of_mem _ List.mem_cons_self)), by simp, .of (.refl _)⟩, trivial⟩
    · exact List.mem_cons_of_mem _ List.mem_cons_self
    · rw [show R.set j [.int .i64 b.1, .int .i64 b.2, .isl (([x].map (numB code)).map zrw)] = (R.set j [.int .i64 b.1, .int .i64 b.2, .sl (19 * 10000 + 110) (m3) 0 1]).set j [.int .i64 b.1, .int .i64 b.2, .isl [[.int .i64 (numB code x)]]] by rw [List.set_set]; rfl]
      exact FrzB.setRow (hset _) ⟨.of (.refl _), .of (.refl _), Frz.all rfl, trivial⟩
  | [x, y], _ =>
    have hx := hbt x (by simp)
    have hkx := hkey x
    have hy := hbt y (by simp)
    have hky := hkey y
    have z1 : rowsz [zrw x, zrw y] 1 = True := eq_true (rowszB_iff rfl)
    simp -implicitDefEqProofs only [go_sem, Nat.reduceEqDiff, Nat.reduceAdd, Nat.reduceSub, Nat.reduceMul, Nat.reduceLeDiff, Nat.reduceLT, Nat.reduceBEq, Int.reduceToNat, Int.reduceLE, Int.reduceLT, Int.reduceEq, Int.reduceNe, Int.reduceAdd, Int.reduceSub, Int.reduceNeg, Int.toNat_natCast, Int.cast_ofNat_Int, Int.natCast_zero, Int.natCast_one, reduceCtorEq, reduceIte, Nat.lt_irrefl, and_self, not_false_eq_true, not_true_eq_false, Ins.v, Ins.row, List.map_nil, List.map_cons, List.length_cons, List.length_nil]
    refine Run.loop (Run.unf flow_Blocks_l4_eq (Run.go 100 ?_))
    simp -implicitDefEqProofs only [go_sem, Nat.reduceEqDiff, Nat.reduceAdd, Nat.reduceSub, Nat.reduceMul, Nat.reduceLeDiff, Nat.reduceLT, Nat.reduceBEq, Int.reduceToNat, Int.reduceLE, Int.reduceLT, Int.reduceEq, Int.reduceNe, Int.reduceAdd, Int.reduceSub, Int.reduceNeg, Int.toNat_natCast, Int.cast_ofNat_Int, Int.natCast_zero, Int.natCast_one, reduceCtorEq, reduceIte, Nat.lt_irrefl, and_self, not_false_eq_true, not_true_eq_false, Ins.v, Ins.row, z1, hx, hkx, hr3, hr3l, k0, k1, k2, zrw, List.length_cons, List.length_nil, Option.some.injEq, forall_eq']
    have h2 := hset [.int .i64 b.1, .int .i64 b.2, .sl (19 * 10000 + 110) m3 0 1]
    have hsl : (R.set j [.int .i64 b.1, .int .i64 b.2, .sl (19 * 10000 + 110) m3 0 1]).length = bl.length := by rw [List.length_set]; exact hr3l
    have hss : ∀ r : List V, (R.set j [.int .i64 b.1, .int .i64 b.2, .sl (19 * 10000 + 110) m3 0 1]).set j r = R.set j r := fun r => List.set_set _
    refine Run.lp (Run.unf flow_Blocks_l4_eq (Run.go 100 ?_))
    simp only [Nat.reduceMul, Nat.reduceAdd] at h2 hsl hss
    simp -implicitDefEqProofs only [go_sem, Nat.reduceEqDiff, Nat.reduceAdd, Nat.reduceSub, Nat.reduceMul, Nat.reduceLeDiff, Nat.reduceLT, Nat.reduceBEq, Int.reduceToNat, Int.reduceLE, Int.reduceLT, Int.reduceEq, Int.reduceNe, Int.reduceAdd, Int.reduceSub, Int.reduceNeg, Int.toNat_natCast, Int.cast_ofNat_Int, Int.natCast_zero, Int.natCast_one, reduceCtorEq, reduceIte, Nat.lt_irrefl, and_self, not_false_eq_true, not_true_eq_false, Ins.v, Ins.row, z1, hy, hky, h2, hsl, hss, hr3l, k0, k1, k2, zrw, List.length_cons, List.length_nil, Option.some.injEq, forall_eq']
    refine Run.lp (Run.unf flow_Blocks_l4_eq (Run.go 100 ?_))
    simp -implicitDefEqProofs only [go_sem, Nat.reduceEqDiff, Nat.reduceAdd, Nat.reduceSub, Nat.reduceMul, Nat.reduceLeDiff, Nat.reduceLT, Nat.reduceBEq, Int.reduceToNat, Int.reduceLE, Int.reduceLT, Int.reduceEq, Int.reduceNe, Int.reduceAdd, Int.reduceSub, Int.reduceNeg, Int.toNat_natCast, Int.cast_ofNat_Int, Int.natCast_zero, Int.natCast_one, reduceCtorEq, reduceIte, Nat.lt_irrefl, and_self, not_false_eq_true, not_true_eq_false, Ins.v, Ins.row, List.length_cons, List.length_nil]
    refine ⟨by omega, ih _ (j + 1, m3 + 1 + 1) (by simp only; omega) (by simp only; omega) ?_⟩
    simp only [hz, ← hr3s]
    refine .freeze (b := (19 * 10000 + 110)) (st := m3 + 1) (sz := 1) (rs := [[.int .i64 (numB code x)], [.int .i64 (numB code y)]]) ?_ ⟨.of (.refl _), .of (.refl _), .of (.refl _), .of (.refl _), .of (.refl _), trivial⟩ ⟨⟨_, List.mem_cons_self, by simp, ?_⟩, ⟨_, List.mem_cons_of_mem _ (List.mem_cons_of_mem _ List.mem_cons_self), by simp, .of (.refl _)⟩, ⟨_, List.mem_cons_of_mem _ (List.mem_cons_of_mem _ (List.mem_cons_of_mem _ List.mem_cons_self)), by simp, .of (.refl _)⟩, trivial⟩
    · exact List.mem_cons_of_mem _ List.mem_cons_self
    · rw [show R.set j [.int .i64 b.1, .int .i64 b.2, .isl (([x, y].map (numB code)).map zrw)] = (R.set j [.int .i64 b.1, .int .i64 b.2, .sl (19 * 10000 + 110) (m3 + 1) 0 2]).set j [.int .i64 b.1, .int .i64 b.2, .isl [[.int .i64 (numB code x)], [.int .i64 (numB code y)]]] by rw [List.set_set]; rfl]
      exact FrzB.setRow (hset _) ⟨.of (.refl _), .of (.refl _), Frz.all rfl, trivial⟩
end Go.Proofs.YtccghnpcfkifjaaDoor
