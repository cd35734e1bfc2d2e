/-
  What the reference's 'Blocks' answers. No condition.
-/
import Derived.Test.YtccghnpcfkifjaaDoorBlkR
set_option linter.unusedVariables false
set_option linter.unusedSimpArgs false
set_option maxRecDepth 100000
set_option maxHeartbeats 0
namespace Go.Proofs.YtccghnpcfkifjaaDoor
open Go.Abs
attribute [local irreducible] CallS Run
-- EV: Ins.v, Ins.row

/-- The numbers of the blocks of the first 'n' instructions, then zeros. -/
def numL (code : List Ins) (n : Nat) : List Int := (List.range code.length).map fun k => if k < n then ((blkT code (k + 1)).length : Int) - 1 else 0
theorem numL_len (code : List Ins) (n : Nat) : (numL code n).length = code.length := by simp [numL]
theorem numL_zero (code : List Ins) : (numL code 0).map zrw = List.replicate code.length [.int .i64 0] := by
  unfold numL
  simp only [Nat.not_lt_zero, if_false, List.map_const', List.length_range, List.map_replicate, zrw]
theorem numL_at {code : List Ins} {n k : Nat} (h : k < code.length) : (numL code n)[k]? = some (if k < n then ((blkT code (k + 1)).length : Int) - 1 else 0) := by simp [numL, h]
theorem numL_set {code : List Ins} {n : Nat} (h : n < code.length) : ((numL code n).map zrw).set n [.int .i64 (((blkT code (n + 1)).length : Int) - 1)] = (numL code (n + 1)).map zrw := by
  refine List.ext_getElem? fun i => ?_
  rw [List.getElem?_set]
  by_cases hi : i < code.length
  · rw [List.getElem?_map, List.getElem?_map, numL_at hi, numL_at hi]
    by_cases c : n = i
    · subst c; simp [numL_len, h, zrw]
    · rw [if_neg c]
      by_cases d : i < n
      · simp [d, show i < n + 1 by omega]
      · simp [d, show ¬ i < n + 1 by omega]
  · rw [if_neg (by omega), List.getElem?_eq_none (by simp [numL_len]; omega), List.getElem?_eq_none (by simp [numL_len]; omega)]
theorem numL_start {code : List Ins} {t : Int} (h : stB code t = true ∧ 0 ≤ t ∧ t < code.length) : ∃ y : Nat, t = y ∧ y < code.length ∧ ((numL code code.length).map zrw)[y]? = some [.int .i64 (numB code t)] := by
  obtain ⟨y, rfl⟩ : ∃ y : Nat, t = y := ⟨t.toNat, by omega⟩
  have hy : y < code.length := by omega
  refine ⟨y, rfl, hy, ?_⟩
  rw [List.getElem?_map, numL_at hy, if_pos hy, blkT_yes h.1]
  unfold numB numT
  rw [if_pos ⟨h.2.1, h.2.2, h.1⟩]
  simp [zrw]
theorem blkT_lt {code : List Ins} : ∀ (n : Nat) {s : Nat}, s < n → stB code s = true → (blkT code s).length < (blkT code n).length
  | 0, s, h, _ => absurd h (Nat.not_lt_zero _)
  | n + 1, s, h, hs => by
    by_cases e : s = n
    · subst e; rw [blkT_yes hs]; simp
    · exact Nat.lt_of_lt_of_le (blkT_lt n (by omega) hs) (blkT_mono code n)
theorem numB_lt {code : List Ins} {s t : Int} (hs : stB code s = true ∧ 0 ≤ s ∧ s < code.length) (ht : stB code t = true ∧ 0 ≤ t ∧ t < code.length) (h : s < t) : numB code s < numB code t := by
  obtain ⟨a, rfl⟩ : ∃ y : Nat, s = y := ⟨s.toNat, by omega⟩
  obtain ⟨b, rfl⟩ : ∃ y : Nat, t = y := ⟨t.toNat, by omega⟩
  unfold numB numT
  rw [if_pos ⟨hs.2.1, hs.2.2, hs.1⟩, if_pos ⟨ht.2.1, ht.2.2, ht.1⟩]
  have := blkT_lt b (show a < b by omega) hs.1
  simp; omega
theorem asc_nextL (code : List Ins) (a : Int) : Asc (nextL code a) := by
  unfold nextL
  split
  · exact asc_nil
  · split
    · exact asc_normZ _
    · exact asc_nil
theorem insZ_nil (v : Int) : insZ [] v = [v] := rfl
theorem insZ_lt {v w : Int} (h : v < w) : insZ [v] w = [v, w] := by
  unfold insZ
  simp [List.filter, h, show ¬ w < v by omega]
theorem rblocks_pure (code : List Ins) (hc : code.length ≤ 10000) (c0 c1 c2 c3 c4 c6 c7 c8 c9 c10 : V) (hb0 : [c0, c1, c2, c3, c4, c6, c7, c8, c9, c10].map (V.sub lost) = [c0, c1, c2, c3, c4, c6, c7, c8, c9, c10]) :
    Pure Tryd.prog 20 [.agg [c0, c1, c2, c3, c4, .isl (code.map Ins.row), c6, c7, c8, c9, c10]] (.isl ((blkL code).map (rowN code))) := by
  refine Pure.of 2 (CallS.enter scriptingref35_Blocks_ok (Nat.le_of_ble_eq_true rfl) ?_)
  have hst := starts_pure code hc c0 c1 c2 c3 c4 c6 c7 c8 c9 c10 hb0
  simp only [List.map_cons, List.map_nil, List.cons.injEq, and_true] at hb0
  have hnx := fun a => rnext_pure code a (by omega) c0 c1 c2 c3 c4 c6 c7 c8 c9 c10
  have hlen : (code.map Ins.row).length = code.length := List.length_map ..
  have hsub : (code.map Ins.row).map (fun r => r.map (V.sub lost)) = code.map Ins.row := subI lost code
  generalize code.map Ins.row = es at *
  have hsl : (rowsS (code.length + 1) (stF code code.length)).length = code.length + 1 := rowsS_len _ _
  have hsa : ∀ k : Nat, k < code.length → (rowsS (code.length + 1) (stF code code.length))[k]? = some [.bool (stB code k)] := fun k hk => by rw [rowsS_at (by omega), stF_all (by omega)]
  have hsz : rowsz (rowsS (code.length + 1) (stF code code.length)) 1 = True := eq_true fun r hr => by unfold rowsS at hr; obtain ⟨y, _, rfl⟩ := List.mem_map.1 hr; rfl
  generalize rowsS (code.length + 1) (stF code code.length) = SS at *
  refine Run.go 100 ?_
  simp -implicitDefEqProofs only [go_sem, Nat.reduceEqDiff, Nat.reduceAdd, Nat.reduceSub, Nat.reduceMul, Nat.reduceLeDiff, Nat.reduceLT, Nat.reduceBEq, Int.reduceToNat, Int.reduceLE, Int.reduceLT, Int.reduceEq, Int.reduceNe, Int.reduceAdd, Int.reduceSub, Int.reduceNeg, Int.toNat_natCast, Int.cast_ofNat_Int, Int.natCast_zero, Int.natCast_one, reduceCtorEq, reduceIte, Nat.lt_irrefl, and_self, not_false_eq_true, not_true_eq_false, Ins.v, Ins.row, initSl]
  refine CallS.pure hst (by simp -implicitDefEqProofs only [go_sem, Nat.reduceEqDiff, Nat.reduceAdd, Nat.reduceSub, Nat.reduceMul, Nat.reduceLeDiff, Nat.reduceLT, Nat.reduceBEq, Int.reduceToNat, Int.reduceLE, Int.reduceLT, Int.reduceEq, Int.reduceNe, Int.reduceAdd, Int.reduceSub, Int.reduceNeg, Int.toNat_natCast, Int.cast_ofNat_Int, Int.natCast_zero, Int.natCast_one, reduceCtorEq, reduceIte, Nat.lt_irrefl, and_self, not_false_eq_true, not_true_eq_false, Ins.v, Ins.row, hsub, hb0]) ?_
  have hN : (code.length : Int).toNat = code.length := by omega
  simp -implicitDefEqProofs only [go_sem, Nat.reduceEqDiff, Nat.reduceAdd, Nat.reduceSub, Nat.reduceMul, Nat.reduceLeDiff, Nat.reduceLT, Nat.reduceBEq, Int.reduceToNat, Int.reduceLE, Int.reduceLT, Int.reduceEq, Int.reduceNe, Int.reduceAdd, Int.reduceSub, Int.reduceNeg, Int.toNat_natCast, Int.cast_ofNat_Int, Int.natCast_zero, Int.natCast_one, reduceCtorEq, reduceIte, Nat.lt_irrefl, and_self, not_false_eq_true, not_true_eq_false, Ins.v, Ins.row, hlen, hN]
  refine ⟨by omega, by omega, ?_⟩
  refine Run.rounds (fun (x : Nat × Nat × Nat) => ⟨[(6, .int .i64 x.1), (5, .sl (20 * 10000 + 16) x.2.1 0 (blkT code x.1).length), (4, .sl (20 * 10000 + 15) 1 0 code.length), (3, .isl SS), (1, .ptr (20 * 10000 + 1) 0 0 0)], [((20 * 10000 + 16), x.2.1, .rows 3 ((blkT code x.1).map rowB)), ((20 * 10000 + 15), 1, .rows 1 ((numL code x.1).map zrw)), ((20 * 10000 + 1), 0, .rows 11 [[c0, c1, c2, c3, c4, .isl es, c6, c7, c8, c9, c10]])], x.2.2⟩)
    (fun x => x.1 ≤ code.length) (fun x => code.length - x.1) (0, 2, 3) (by simp -implicitDefEqProofs only [go_sem, Nat.reduceEqDiff, Nat.reduceAdd, Nat.reduceSub, Nat.reduceMul, Nat.reduceLeDiff, Nat.reduceLT, Nat.reduceBEq, Int.reduceToNat, Int.reduceLE, Int.reduceLT, Int.reduceEq, Int.reduceNe, Int.reduceAdd, Int.reduceSub, Int.reduceNeg, Int.toNat_natCast, Int.cast_ofNat_Int, Int.natCast_zero, Int.natCast_one, reduceCtorEq, reduceIte, Nat.lt_irrefl, and_self, not_false_eq_true, not_true_eq_false, Ins.v, Ins.row, blkT, numL_zero, List.map_nil, List.length_nil]) (by simp only; omega) ?_
  rintro ⟨k, st, m⟩ hk ih
  simp only at hk ih ⊢
  have hz : ((k + 1 : Nat) : Int) = (k : Int) + 1 := by omega
  refine Run.unf scriptingref35_Blocks_l0_eq (Run.go 100 ?_)
  by_cases c : (k : Int) < code.length
  · have hsk := hsa k (by omega)
    have hLle := blkT_len_le code k
    have k0 : ((0 : Int) ≤ (k : Int)) = True := eq_true (by omega)
    have k1 : ((k : Int) < (code.length : Int)) = True := eq_true c
    have k1' : ((k : Int) < ((code.length + 1 : Nat) : Int)) = True := eq_true (by omega)
    have k2 : (k < code.length) = True := eq_true (by omega)
    have k2' : (k < code.length + 1) = True := eq_true (by omega)
    have n1 := numL_set (code := code) (n := k) (by omega)
    have n2 : ((numL code k).map zrw).length = code.length := by rw [List.length_map]; exact numL_len _ _
    have n3 : ((numL code k).map zrw)[k]? = some [.int .i64 0] := by rw [List.getElem?_map, numL_at (by omega)]; simp [zrw]
    generalize (numL code k).map zrw = NL at *
    cases hs : stB code k with
    | true =>
      rw [hs] at hsk
      have hy := blkT_yes hs
      have hRl : ((blkT code k).map rowB).length = (blkT code k).length := List.length_map ..
      have hR1 : ((blkT code (k + 1)).map rowB) = (blkT code k).map rowB ++ [[.int .i64 k, .int .i64 ((k : Int) + 1), .nils]] := by rw [hy]; simp [rowB]
      have hl1 : (blkT code (k + 1)).length = (blkT code k).length + 1 := by rw [hy]; simp
      rw [hl1] at n1
      generalize (blkT code k).map rowB = RB at *
      generalize (blkT code k).length = L at *
      have q1 : ((0 : Int) ≤ ((L + 1 : Nat) : Int) - 1) = True := eq_true (by omega)
      have q2 : ((((L + 1 : Nat) : Int) - 1) < ((L + 1 : Nat) : Int)) = True := eq_true (by omega)
      have q3 : (((L + 1 : Nat) : Int) - 1).toNat = L := by omega
      have q4 : (RB ++ [[V.int .i64 k, .int .i64 0, .nils]])[L]? = some [.int .i64 k, .int .i64 0, .nils] := by rw [← hRl]; simp
      have q5 : (RB ++ [[V.int .i64 k, .int .i64 0, .nils]]).set L [.int .i64 k, .int .i64 ((k : Int) + 1), .nils] = RB ++ [[.int .i64 k, .int .i64 ((k : Int) + 1), .nils]] := by rw [← hRl]; simp
      have q6 : RB.take L = RB := List.take_of_length_le (by omega)
      simp -implicitDefEqProofs only [go_sem, Nat.reduceEqDiff, Nat.reduceAdd, Nat.reduceSub, Nat.reduceMul, Nat.reduceLeDiff, Nat.reduceLT, Nat.reduceBEq, Int.reduceToNat, Int.reduceLE, Int.reduceLT, Int.reduceEq, Int.reduceNe, Int.reduceAdd, Int.reduceSub, Int.reduceNeg, Int.toNat_natCast, Int.cast_ofNat_Int, Int.natCast_zero, Int.natCast_one, reduceCtorEq, reduceIte, Nat.lt_irrefl, and_self, not_false_eq_true, not_true_eq_false, Ins.v, Ins.row, c, hlen, hsl, hsk, hsz, hRl, k0, k1, k1', k2, k2', n1, n2, n3, q1, q2, q3, q4, q5, q6, Option.some.injEq, forall_eq', List.drop_one, List.tail_cons]
      refine ⟨by omega, by omega, by omega, by omega, by omega, by omega, ?_⟩
      refine ih _ (k + 1, m, m + 1) (by simp only; omega) (by simp only; omega) ?_
      simp only [hz, hR1, hl1]
      simp -implicitDefEqProofs only [go_sem, Nat.reduceEqDiff, Nat.reduceAdd, Nat.reduceSub, Nat.reduceMul, Nat.reduceLeDiff, Nat.reduceLT, Nat.reduceBEq, Int.reduceToNat, Int.reduceLE, Int.reduceLT, Int.reduceEq, Int.reduceNe, Int.reduceAdd, Int.reduceSub, Int.reduceNeg, Int.toNat_natCast, Int.cast_ofNat_Int, Int.natCast_zero, Int.natCast_one, reduceCtorEq, reduceIte, Nat.lt_irrefl, and_self, not_false_eq_true, not_true_eq_false, Ins.v, Ins.row]
    | false =>
      rw [hs] at hsk
      have h0 : 0 < k := by
        rcases Nat.eq_zero_or_pos k with rfl | h
        · rw [show ((0 : Nat) : Int) = 0 from rfl, stB_zero] at hs; cases hs
        · exact h
      rcases nil_or_snoc (blkT code k) with e | ⟨l, b, e⟩
      · exact absurd e (blkT_ne code k h0)
      have hy := blkT_no hs e
      have hl1 : (blkT code (k + 1)).length = l.length + 1 := by rw [hy]; simp
      have hl0 : (blkT code k).length = l.length + 1 := by rw [e]; simp
      have hR1 : ((blkT code (k + 1)).map rowB) = l.map rowB ++ [[.int .i64 b.1, .int .i64 ((k : Int) + 1), .nils]] := by rw [hy]; simp [rowB]
      have hR0 : ((blkT code k).map rowB) = l.map rowB ++ [[.int .i64 b.1, .int .i64 b.2, .nils]] := by rw [e]; simp [rowB]
      rw [hl1] at n1
      rw [hl0] at hLle ⊢
      rw [hR0]
      have hRl : (l.map rowB).length = l.length := List.length_map ..
      generalize l.map rowB = RB at *
      generalize l.length = L at *
      have q1 : ((0 : Int) ≤ ((L + 1 : Nat) : Int) - 1) = True := eq_true (by omega)
      have q2 : ((((L + 1 : Nat) : Int) - 1) < ((L + 1 : Nat) : Int)) = True := eq_true (by omega)
      have q3 : (((L + 1 : Nat) : Int) - 1).toNat = L := by omega
      have q4 : (RB ++ [[V.int .i64 b.1, .int .i64 b.2, .nils]])[L]? = some [.int .i64 b.1, .int .i64 b.2, .nils] := by rw [← hRl]; simp
      have q5 : (RB ++ [[V.int .i64 b.1, .int .i64 b.2, .nils]]).set L [.int .i64 b.1, .int .i64 ((k : Int) + 1), .nils] = RB ++ [[.int .i64 b.1, .int .i64 ((k : Int) + 1), .nils]] := by rw [← hRl]; simp
      simp -implicitDefEqProofs only [go_sem, Nat.reduceEqDiff, Nat.reduceAdd, Nat.reduceSub, Nat.reduceMul, Nat.reduceLeDiff, Nat.reduceLT, Nat.reduceBEq, Int.reduceToNat, Int.reduceLE, Int.reduceLT, Int.reduceEq, Int.reduceNe, Int.reduceAdd, Int.reduceSub, Int.reduceNeg, Int.toNat_natCast, Int.cast_ofNat_Int, Int.natCast_zero, Int.natCast_one, reduceCtorEq, reduceIte, Nat.lt_irrefl, and_self, not_false_eq_true, not_true_eq_false, Ins.v, Ins.row, c, hlen, hsl, hsk, hsz, hRl, k0, k1, k1', k2, k2', n1, n2, n3, q1, q2, q3, q4, q5, Option.some.injEq, forall_eq', List.drop_one, List.tail_cons]
      repeat' (first | refine And.intro ?_ ?_ | refine fun h => ?_)
      all_goals first
        | omega
        | (refine ih _ (k + 1, st, m) (by simp only; omega) (by simp only; omega) ?_
           simp only [hz, hR1, hl1]
           simp -implicitDefEqProofs only [go_sem, Nat.reduceEqDiff, Nat.reduceAdd, Nat.reduceSub, Nat.reduceMul, Nat.reduceLeDiff, Nat.reduceLT, Nat.reduceBEq, Int.reduceToNat, Int.reduceLE, Int.reduceLT, Int.reduceEq, Int.reduceNe, Int.reduceAdd, Int.reduceSub, Int.reduceNeg, Int.toNat_natCast, Int.cast_ofNat_Int, Int.natCast_zero, Int.natCast_one, reduceCtorEq, reduceIte, Nat.lt_irrefl, and_self, not_false_eq_true, not_true_eq_false, Ins.v, Ins.row]
           done)
  have e : k = code.length := by omega
  subst e
  clear ih
  have hbl : ∀ b ∈ blkT code code.length, ∀ t ∈ nextL code (b.2 - 1), stB code t = true ∧ 0 ≤ t ∧ t < code.length := fun b hb t ht => next_start hb ht
  have hble := blkT_len_le code code.length
  have hpos := (bi_at code code.length).pos
  have hbe : blkT code code.length = blkL code := rfl
  rw [hbe] at hbl hble hpos ⊢
  have hns := @numL_start code
  have n2 : ((numL code code.length).map zrw).length = code.length := by rw [List.length_map]; exact numL_len _ _
  generalize (numL code code.length).map zrw = NL at *
  generalize hb : blkL code = bl at *
  simp -implicitDefEqProofs only [go_sem, Nat.reduceEqDiff, Nat.reduceAdd, Nat.reduceSub, Nat.reduceMul, Nat.reduceLeDiff, Nat.reduceLT, Nat.reduceBEq, Int.reduceToNat, Int.reduceLE, Int.reduceLT, Int.reduceEq, Int.reduceNe, Int.reduceAdd, Int.reduceSub, Int.reduceNeg, Int.toNat_natCast, Int.cast_ofNat_Int, Int.natCast_zero, Int.natCast_one, reduceCtorEq, reduceIte, Nat.lt_irrefl, and_self, not_false_eq_true, not_true_eq_false, Ins.v, Ins.row, c, hlen]
  -- their successors
  refine Run.roundsK (fun (x : Nat × Nat) => ⟨[(7, .int .i64 x.1), (5, .sl (20 * 10000 + 16) st 0 bl.length), (4, .sl (20 * 10000 + 15) 1 0 code.length), (1, .ptr (20 * 10000 + 1) 0 0 0)],
      [((20 * 10000 + 16), st, .rows 3 (rows3 code bl x.1)), ((20 * 10000 + 15), 1, .rows 1 NL), ((20 * 10000 + 1), 0, .rows 11 [[c0, c1, c2, c3, c4, .isl es, c6, c7, c8, c9, c10]])], x.2⟩)
    (fun x => x.1 ≤ bl.length) (fun x => bl.length - x.1) (0, m) (Weak.wk (by simp -implicitDefEqProofs only [go_sem, Nat.reduceEqDiff, Nat.reduceAdd, Nat.reduceSub, Nat.reduceMul, Nat.reduceLeDiff, Nat.reduceLT, Nat.reduceBEq, Int.reduceToNat, Int.reduceLE, Int.reduceLT, Int.reduceEq, Int.reduceNe, Int.reduceAdd, Int.reduceSub, Int.reduceNeg, Int.toNat_natCast, Int.cast_ofNat_Int, Int.natCast_zero, Int.natCast_one, reduceCtorEq, reduceIte, Nat.lt_irrefl, and_self, not_false_eq_true, not_true_eq_false, Ins.v, Ins.row, rows3_zero])) (by simp only; omega) ?_
  rintro ⟨j, m3⟩ hj ih
  simp only at hj ih ⊢
  have hz : ((j + 1 : Nat) : Int) = (j : Int) + 1 := by omega
  refine Run.unf scriptingref35_Blocks_l1_eq (Run.go 100 ?_)
  by_cases c : (j : Int) < bl.length
  rotate_left
  · have e : j = bl.length := by omega
    subst e
    simp -implicitDefEqProofs only [go_sem, Nat.reduceEqDiff, Nat.reduceAdd, Nat.reduceSub, Nat.reduceMul, Nat.reduceLeDiff, Nat.reduceLT, Nat.reduceBEq, Int.reduceToNat, Int.reduceLE, Int.reduceLT, Int.reduceEq, Int.reduceNe, Int.reduceAdd, Int.reduceSub, Int.reduceNeg, Int.toNat_natCast, Int.cast_ofNat_Int, Int.natCast_zero, Int.natCast_one, reduceCtorEq, reduceIte, Nat.lt_irrefl, and_self, not_false_eq_true, not_true_eq_false, Ins.v, Ins.row, c]
    rw [if_pos (by rw [rows3_len _ _ _ (Nat.le_refl _)]; exact Nat.le_refl _), List.take_of_length_le (by rw [rows3_len _ _ _ (Nat.le_refl _)]; exact Nat.le_refl _), rows3_all]
    exact congrArg V.isl (frzN _ _ _ _)
  obtain ⟨b, hbj⟩ : ∃ b, bl[j]? = some b := ⟨bl[j]'(by omega), by simp⟩
  have hbm := List.mem_of_getElem? hbj
  have hbt := hbl b hbm
  have hbp := hpos b hbm
  have hr3 := rows3_at code hbj
  have hr3s := rows3_set code hbj
  have hr3l : (rows3 code bl j).length = bl.length := rows3_len code bl j (by omega)
  generalize rows3 code bl j = R at *
  have k0 : ((0 : Int) ≤ (j : Int)) = True := eq_true (by omega)
  have k1 : ((j : Int) < (bl.length : Int)) = True := eq_true c
  have k2 : (j < bl.length) = True := eq_true (by omega)
  simp -implicitDefEqProofs only [go_sem, Nat.reduceEqDiff, Nat.reduceAdd, Nat.reduceSub, Nat.reduceMul, Nat.reduceLeDiff, Nat.reduceLT, Nat.reduceBEq, Int.reduceToNat, Int.reduceLE, Int.reduceLT, Int.reduceEq, Int.reduceNe, Int.reduceAdd, Int.reduceSub, Int.reduceNeg, Int.toNat_natCast, Int.cast_ofNat_Int, Int.natCast_zero, Int.natCast_one, reduceCtorEq, reduceIte, Nat.lt_irrefl, and_self, not_false_eq_true, not_true_eq_false, Ins.v, Ins.row, c, hr3, hr3l, k0, k1, k2, Option.some.injEq, forall_eq']
  refine ⟨by omega, ?_⟩
  refine CallS.pure (hnx (b.2 - 1)) (by simp -implicitDefEqProofs only [go_sem, Nat.reduceEqDiff, Nat.reduceAdd, Nat.reduceSub, Nat.reduceMul, Nat.reduceLeDiff, Nat.reduceLT, Nat.reduceBEq, Int.reduceToNat, Int.reduceLE, Int.reduceLT, Int.reduceEq, Int.reduceNe, Int.reduceAdd, Int.reduceSub, Int.reduceNeg, Int.toNat_natCast, Int.cast_ofNat_Int, Int.natCast_zero, Int.natCast_one, reduceCtorEq, reduceIte, Nat.lt_irrefl, and_self, not_false_eq_true, not_true_eq_false, Ins.v, Ins.row, hsub, hb0]) ?_
  have hnl := nextL_len2 code (b.2 - 1)
  have hasc := asc_nextL code (b.2 - 1)
  have hrN : rowN code b = [.int .i64 b.1, .int .i64 b.2, .isl (((nextL code (b.2 - 1)).map (numB code)).map zrw)] := rfl
  rw [hrN] at hr3s
  clear hrN
  have hset : ∀ r : List V, (R.set j r)[j]? = some r := fun r => by rw [List.getElem?_set, if_pos rfl, if_pos (by omega)]
  generalize nextL code (b.2 - 1) = nl at *
  match nl, hnl with
  | [], _ =>
    simp -implicitDefEqProofs only [go_sem, Nat.reduceEqDiff, Nat.reduceAdd, Nat.reduceSub, Nat.reduceMul, Nat.reduceLeDiff, Nat.reduceLT, Nat.reduceBEq, Int.reduceToNat, Int.reduceLE, Int.reduceLT, Int.reduceEq, Int.reduceNe, Int.reduceAdd, Int.reduceSub, Int.reduceNeg, Int.toNat_natCast, Int.cast_ofNat_Int, Int.natCast_zero, Int.natCast_one, reduceCtorEq, reduceIte, Nat.lt_irrefl, and_self, not_false_eq_true, not_true_eq_false, Ins.v, Ins.row, List.map_nil, List.length_nil]
    refine Run.loop (Run.unf scriptingref35_Blocks_l2_eq (Run.go 100 ?_))
    simp -implicitDefEqProofs only [go_sem, Nat.reduceEqDiff, Nat.reduceAdd, Nat.reduceSub, Nat.reduceMul, Nat.reduceLeDiff, Nat.reduceLT, Nat.reduceBEq, Int.reduceToNat, Int.reduceLE, Int.reduceLT, Int.reduceEq, Int.reduceNe, Int.reduceAdd, Int.reduceSub, Int.reduceNeg, Int.toNat_natCast, Int.cast_ofNat_Int, Int.natCast_zero, Int.natCast_one, reduceCtorEq, reduceIte, Nat.lt_irrefl, and_self, not_false_eq_true, not_true_eq_false, Ins.v, Ins.row, List.length_nil]
    refine ⟨by omega, ih _ (j + 1, m3) (by simp only; omega) (by simp only; omega) ?_⟩
    simp only [hz, ← hr3s]
    exact .turn id ⟨.refl _, .refl _, .refl _, .refl _, trivial⟩ (.at 0 rfl rfl (SameB.setRow hr3 ⟨.refl _, .refl _, .nilI, trivial⟩) (.at 1 rfl rfl (.refl _) (.at 2 rfl rfl (.refl _) trivial)))
  | [x], _ =>
    obtain ⟨y, rfl, hy, hyr⟩ := hns (hbt x (by simp))
    have y0 : ((0 : Int) ≤ (y : Int)) = True := eq_true (by omega)
    have y1 : ((y : Int) < (code.length : Int)) = True := eq_true (by omega)
    have y2 : (y < code.length) = True := eq_true hy
    have z1 : rowsz [zrw y] 1 = True := eq_true (rowszB_iff rfl)
    have hp := put_pure [] asc_nil (by simp) (numB code y)
    rw [insZ_nil] at hp
    simp -implicitDefEqProofs only [go_sem, Nat.reduceEqDiff, Nat.reduceAdd, Nat.reduceSub, Nat.reduceMul, Nat.reduceLeDiff, Nat.reduceLT, Nat.reduceBEq, Int.reduceToNat, Int.reduceLE, Int.reduceLT, Int.reduceEq, Int.reduceNe, Int.reduceAdd, Int.reduceSub, Int.reduceNeg, Int.toNat_natCast, Int.cast_ofNat_Int, Int.natCast_zero, Int.natCast_one, reduceCtorEq, reduceIte, Nat.lt_irrefl, and_self, not_false_eq_true, not_true_eq_false, Ins.v, Ins.row, List.map_nil, List.map_cons, List.length_cons, List.length_nil]
    refine Run.loop (Run.unf scriptingref35_Blocks_l2_eq (Run.go 100 ?_))
    simp -implicitDefEqProofs only [go_sem, Nat.reduceEqDiff, Nat.reduceAdd, Nat.reduceSub, Nat.reduceMul, Nat.reduceLeDiff, Nat.reduceLT, Nat.reduceBEq, Int.reduceToNat, Int.reduceLE, Int.reduceLT, Int.reduceEq, Int.reduceNe, Int.reduceAdd, Int.reduceSub, Int.reduceNeg, Int.toNat_natCast, Int.cast_ofNat_Int, Int.natCast_zero, Int.natCast_one, reduceCtorEq, reduceIte, Nat.lt_irrefl, and_self, not_false_eq_true, not_true_eq_false, Ins.v, Ins.row, z1, hr3, hr3l, k0, k1, k2, y0, y1, y2, hyr, n2, zrw, List.length_cons, List.length_nil, Option.some.injEq, forall_eq']
    refine CallS.pure hp (by simp -implicitDefEqProofs only [go_sem, Nat.reduceEqDiff, Nat.reduceAdd, Nat.reduceSub, Nat.reduceMul, Nat.reduceLeDiff, Nat.reduceLT, Nat.reduceBEq, Int.reduceToNat, Int.reduceLE, Int.reduceLT, Int.reduceEq, Int.reduceNe, Int.reduceAdd, Int.reduceSub, Int.reduceNeg, Int.toNat_natCast, Int.cast_ofNat_Int, Int.natCast_zero, Int.natCast_one, reduceCtorEq, reduceIte, Nat.lt_irrefl, and_self, not_false_eq_true, not_true_eq_false, Ins.v, Ins.row, List.map_nil]) ?_
    simp -implicitDefEqProofs only [go_sem, Nat.reduceEqDiff, Nat.reduceAdd, Nat.reduceSub, Nat.reduceMul, Nat.reduceLeDiff, Nat.reduceLT, Nat.reduceBEq, Int.reduceToNat, Int.reduceLE, Int.reduceLT, Int.reduceEq, Int.reduceNe, Int.reduceAdd, Int.reduceSub, Int.reduceNeg, Int.toNat_natCast, Int.cast_ofNat_Int, Int.natCast_zero, Int.natCast_one, reduceCtorEq, reduceIte, Nat.lt_irrefl, and_self, not_false_eq_true, not_true_eq_false, Ins.v, Ins.row, hr3, hr3l, k0, k1, k2, List.map_cons, List.map_nil, zrw, Option.some.injEq, forall_eq']
    refine Run.lp (Run.unf scriptingref35_Blocks_l2_eq (Run.go 100 ?_))
    simp -implicitDefEqProofs only [go_sem, Nat.reduceEqDiff, Nat.reduceAdd, Nat.reduceSub, Nat.reduceMul, Nat.reduceLeDiff, Nat.reduceLT, Nat.reduceBEq, Int.reduceToNat, Int.reduceLE, Int.reduceLT, Int.reduceEq, Int.reduceNe, Int.reduceAdd, Int.reduceSub, Int.reduceNeg, Int.toNat_natCast, Int.cast_ofNat_Int, Int.natCast_zero, Int.natCast_one, reduceCtorEq, reduceIte, Nat.lt_irrefl, and_self, not_false_eq_true, not_true_eq_false, Ins.v, Ins.row, List.length_cons, List.length_nil]
    refine ⟨by omega, ih _ (j + 1, m3) (by simp only; omega) (by simp only; omega) ?_⟩
    simp only [hz, ← hr3s]
    exact Weak.wk (by simp -implicitDefEqProofs only [go_sem, Nat.reduceEqDiff, Nat.reduceAdd, Nat.reduceSub, Nat.reduceMul, Nat.reduceLeDiff, Nat.reduceLT, Nat.reduceBEq, Int.reduceToNat, Int.reduceLE, Int.reduceLT, Int.reduceEq, Int.reduceNe, Int.reduceAdd, Int.reduceSub, Int.reduceNeg, Int.toNat_natCast, Int.cast_ofNat_Int, Int.natCast_zero, Int.natCast_one, reduceCtorEq, reduceIte, Nat.lt_irrefl, and_self, not_false_eq_true, not_true_eq_false, Ins.v, Ins.row, List.map_cons, List.map_nil, zrw])
  | [x, z], _ =>
    have hxz : x < z := by
      have := (List.pairwise_cons.1 hasc).1 z (by simp)
      exact this
    have hlt := numB_lt (hbt x (by simp)) (hbt z (by simp)) hxz
    obtain ⟨y, rfl, hy, hyr⟩ := hns (hbt x (by simp))
    obtain ⟨v, rfl, hv, hvr⟩ := hns (hbt z (by simp))
    have y0 : ((0 : Int) ≤ (y : Int)) = True := eq_true (by omega)
    have y1 : ((y : Int) < (code.length : Int)) = True := eq_true (by omega)
    have y2 : (y < code.length) = True := eq_true hy
    have v0 : ((0 : Int) ≤ (v : Int)) = True := eq_true (by omega)
    have v1 : ((v : Int) < (code.length : Int)) = True := eq_true (by omega)
    have v2 : (v < code.length) = True := eq_true hv
    have z1 : rowsz [zrw y, zrw v] 1 = True := eq_true (rowszB_iff rfl)
    have hp := put_pure [] asc_nil (by simp) (numB code y)
    rw [insZ_nil] at hp
    have hp2 := put_pure [numB code y] (asc_one _) (by simp) (numB code v)
    rw [insZ_lt hlt] at hp2
    simp -implicitDefEqProofs only [go_sem, Nat.reduceEqDiff, Nat.reduceAdd, Nat.reduceSub, Nat.reduceMul, Nat.reduceLeDiff, Nat.reduceLT, Nat.reduceBEq, Int.reduceToNat, Int.reduceLE, Int.reduceLT, Int.reduceEq, Int.reduceNe, Int.reduceAdd, Int.reduceSub, Int.reduceNeg, Int.toNat_natCast, Int.cast_ofNat_Int, Int.natCast_zero, Int.natCast_one, reduceCtorEq, reduceIte, Nat.lt_irrefl, and_self, not_false_eq_true, not_true_eq_false, Ins.v, Ins.row, List.map_nil, List.map_cons, List.length_cons, List.length_nil]
    refine Run.loop (Run.unf scriptingref35_Blocks_l2_eq (Run.go 100 ?_))
    simp -implicitDefEqProofs only [go_sem, Nat.reduceEqDiff, Nat.reduceAdd, Nat.reduceSub, Nat.reduceMul, Nat.reduceLeDiff, Nat.reduceLT, Nat.reduceBEq, Int.reduceToNat, Int.reduceLE, Int.reduceLT, Int.reduceEq, Int.reduceNe, Int.reduceAdd, Int.reduceSub, Int.reduceNeg, Int.toNat_natCast, Int.cast_ofNat_Int, Int.natCast_zero, Int.natCast_one, reduceCtorEq, reduceIte, Nat.lt_irrefl, and_self, not_false_eq_true, not_true_eq_false, Ins.v, Ins.row, z1, hr3, hr3l, k0, k1, k2, y0, y1, y2, hyr, n2, zrw, List.length_cons, List.length_nil, Option.some.injEq, forall_eq']
    refine CallS.pure hp (by simp -implicitDefEqProofs only [go_sem, Nat.reduceEqDiff, Nat.reduceAdd, Nat.reduceSub, Nat.reduceMul, Nat.reduceLeDiff, Nat.reduceLT, Nat.reduceBEq, Int.reduceToNat, Int.reduceLE, Int.reduceLT, Int.reduceEq, Int.reduceNe, Int.reduceAdd, Int.reduceSub, Int.reduceNeg, Int.toNat_natCast, Int.cast_ofNat_Int, Int.natCast_zero, Int.natCast_one, reduceCtorEq, reduceIte, Nat.lt_irrefl, and_self, not_false_eq_true, not_true_eq_false, Ins.v, Ins.row, List.map_nil]) ?_
    have h2 := hset [.int .i64 b.1, .int .i64 b.2, .isl [[.int .i64 (numB code y)]]]
    have hsl2 : (R.set j [.int .i64 b.1, .int .i64 b.2, .isl [[.int .i64 (numB code y)]]]).length = bl.length := by rw [List.length_set]; exact hr3l
    have hss : ∀ r : List V, (R.set j [.int .i64 b.1, .int .i64 b.2, .isl [[.int .i64 (numB code y)]]]).set j r = R.set j r := fun r => List.set_set _
    simp -implicitDefEqProofs only [go_sem, Nat.reduceEqDiff, Nat.reduceAdd, Nat.reduceSub, Nat.reduceMul, Nat.reduceLeDiff, Nat.reduceLT, Nat.reduceBEq, Int.reduceToNat, Int.reduceLE, Int.reduceLT, Int.reduceEq, Int.reduceNe, Int.reduceAdd, Int.reduceSub, Int.reduceNeg, Int.toNat_natCast, Int.cast_ofNat_Int, Int.natCast_zero, Int.natCast_one, reduceCtorEq, reduceIte, Nat.lt_irrefl, and_self, not_false_eq_true, not_true_eq_false, Ins.v, Ins.row, hr3, hr3l, k0, k1, k2, List.map_cons, List.map_nil, zrw, Option.some.injEq, forall_eq']
    refine Run.lp (Run.unf scriptingref35_Blocks_l2_eq (Run.go 100 ?_))
    simp -implicitDefEqProofs only [go_sem, Nat.reduceEqDiff, Nat.reduceAdd, Nat.reduceSub, Nat.reduceMul, Nat.reduceLeDiff, Nat.reduceLT, Nat.reduceBEq, Int.reduceToNat, Int.reduceLE, Int.reduceLT, Int.reduceEq, Int.reduceNe, Int.reduceAdd, Int.reduceSub, Int.reduceNeg, Int.toNat_natCast, Int.cast_ofNat_Int, Int.natCast_zero, Int.natCast_one, reduceCtorEq, reduceIte, Nat.lt_irrefl, and_self, not_false_eq_true, not_true_eq_false, Ins.v, Ins.row, z1, h2, hsl2, hss, hr3l, k0, k1, k2, v0, v1, v2, hvr, n2, zrw, List.length_cons, List.length_nil, Option.some.injEq, forall_eq']
    refine CallS.pure hp2 (by simp -implicitDefEqProofs only [go_sem, Nat.reduceEqDiff, Nat.reduceAdd, Nat.reduceSub, Nat.reduceMul, Nat.reduceLeDiff, Nat.reduceLT, Nat.reduceBEq, Int.reduceToNat, Int.reduceLE, Int.reduceLT, Int.reduceEq, Int.reduceNe, Int.reduceAdd, Int.reduceSub, Int.reduceNeg, Int.toNat_natCast, Int.cast_ofNat_Int, Int.natCast_zero, Int.natCast_one, reduceCtorEq, reduceIte, Nat.lt_irrefl, and_self, not_false_eq_true, not_true_eq_false, Ins.v, Ins.row, List.map_cons, List.map_nil, zrw]) ?_
    simp -implicitDefEqProofs only [go_sem, Nat.reduceEqDiff, Nat.reduceAdd, Nat.reduceSub, Nat.reduceMul, Nat.reduceLeDiff, Nat.reduceLT, Nat.reduceBEq, Int.reduceToNat, Int.reduceLE, Int.reduceLT, Int.reduceEq, Int.reduceNe, Int.reduceAdd, Int.reduceSub, Int.reduceNeg, Int.toNat_natCast, Int.cast_ofNat_Int, Int.natCast_zero, Int.natCast_one, reduceCtorEq, reduceIte, Nat.lt_irrefl, and_self, not_false_eq_true, not_true_eq_false, Ins.v, Ins.row, h2, hsl2, hss, hr3l, k0, k1, k2, List.map_cons, List.map_nil, zrw, Option.some.injEq, forall_eq']
    refine Run.lp (Run.unf scriptingref35_Blocks_l2_eq (Run.go 100 ?_))
    simp -implicitDefEqProofs only [go_sem, Nat.reduceEqDiff, Nat.reduceAdd, Nat.reduceSub, Nat.reduceMul, Nat.reduceLeDiff, Nat.reduceLT, Nat.reduceBEq, Int.reduceToNat, Int.reduceLE, Int.reduceLT, Int.reduceEq, Int.reduceNe, Int.reduceAdd, Int.reduceSub, Int.reduceNeg, Int.toNat_natCast, Int.cast_ofNat_Int, Int.natCast_zero, Int.natCast_one, reduceCtorEq, reduceIte, Nat.lt_irrefl, and_self, not_false_eq_true, not_true_eq_false, Ins.v, Ins.row, List.length_cons, List.length_nil]
    refine ⟨by omega, ih _ (j + 1, m3) (by simp only; omega) (by simp only; omega) ?_⟩
    simp only [hz, ← hr3s]
    exact Weak.wk (by simp -implicitDefEqProofs only [go_sem, Nat.reduceEqDiff, Nat.reduceAdd, Nat.reduceSub, Nat.reduceMul, Nat.reduceLeDiff, Nat.reduceLT, Nat.reduceBEq, Int.reduceToNat, Int.reduceLE, Int.reduceLT, Int.reduceEq, Int.reduceNe, Int.reduceAdd, Int.reduceSub, Int.reduceNeg, Int.toNat_natCast, Int.cast_ofNat_Int, Int.natCast_zero, Int.natCast_one, reduceCtorEq, reduceIte, Nat.lt_irrefl, and_self, not_false_eq_true, not_true_eq_false, Ins.v, Ins.row, List.map_cons, List.map_nil, zrw])
end Go.Proofs.YtccghnpcfkifjaaDoor
