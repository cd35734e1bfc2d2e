/-
  FlowCovers. No condition.
-/
import Derived.Test.YtccghnpcfkifjaaDoorBlk
import Derived.Test.YtccghnpcfkifjaaDoorFlow0
set_option linter.unusedVariables false
set_option linter.unusedSimpArgs false
set_option maxRecDepth 100000
set_option maxHeartbeats 0
namespace Go.Proofs.YtccghnpcfkifjaaDoor
open Go.Abs
attribute [local irreducible] CallS Run
-- EV: Ins.v, Ins.row

/-- Where the first 'j' blocks end. -/
def endT (l : List (Int × Int)) (j : Nat) : Int := if j = 0 then 0 else ((l[j - 1]?).elim 0 (·.2))
theorem endT_succ {l : List (Int × Int)} {j : Nat} {b : Int × Int} (h : l[j]? = some b) : endT l (j + 1) = b.2 := by simp [endT, h]
theorem endT_at {code : List Ins} {j : Nat} {b : Int × Int} (h : (blkL code)[j]? = some b) : b.1 = endT (blkL code) j := by
  have hB := bi_at code code.length
  unfold endT
  by_cases h0 : j = 0
  · subst h0; simp; exact hB.first b h
  · rw [if_neg h0]
    have hj := (List.getElem?_eq_some_iff.1 h).1
    have hp : (blkL code)[j - 1]? = some ((blkL code)[j - 1]) := List.getElem?_eq_getElem (by omega)
    rw [hp]
    exact (hB.adj (j - 1) _ b hp (by rw [show j - 1 + 1 = j by omega]; exact h)).symm
theorem endT_all {code : List Ins} : endT (blkL code) (blkL code).length = code.length := by
  have hB := bi_at code code.length
  unfold endT
  by_cases h0 : (blkL code).length = 0
  · rw [if_pos h0]
    by_cases hc : code.length = 0
    · simp [hc]
    · exact absurd (List.eq_nil_of_length_eq_zero h0) (blkT_ne code _ (by omega))
  · rw [if_neg h0]
    have : (blkL code)[(blkL code).length - 1]? = some ((blkL code)[(blkL code).length - 1]) := List.getElem?_eq_getElem (by omega)
    rw [this]
    exact hB.last _ (by rw [List.getLast?_eq_getElem?]; exact this)
/-- The number of a successor of a block. -/
theorem num_at {code : List Ins} {b : Int × Int} (hb : b ∈ blkL code) {t : Int} (ht : t ∈ nextL code (b.2 - 1)) : ∃ (v : Nat) (c : Int × Int), numB code t = v ∧ (blkL code)[v]? = some c ∧ c.1 = t := by
  obtain ⟨h1, h2, h3⟩ := next_start hb ht
  obtain ⟨s, rfl⟩ : ∃ s : Nat, t = s := ⟨t.toNat, by omega⟩
  obtain ⟨c, hc1, hc2⟩ := blk_found code.length (show s < code.length by omega) h1
  refine ⟨(blkT code s).length, c, ?_, hc1, hc2⟩
  unfold numB numT
  rw [if_pos ⟨h2, h3, h1⟩]; rfl

theorem flowCovers_args (n0 : List V) (w0 : Typed Tryd.prog 29 n0) : Pure Tryd.prog 6 [.agg n0] (.bool true) := by
  obtain ⟨p, rfl, hsub, hmax⟩ := proto_found w0
  have hB : p.protos.length ≤ 9223372036854775807 := Nat.le_trans hmax (by decide)
  have hlarge := large_pure p hB
  refine Pure.of 0 (CallS.enter scriptinglaw35_FlowCovers_ok (Nat.le_of_ble_eq_true rfl) ?_)
  have hpr := p.row_eq
  rw [hpr] at hsub hlarge ⊢
  have hnx := fun (hc : p.code.length ≤ 80) a => next_pure p.code a (by omega) (.str p.name) (.int .i64 p.line) (.int .i64 p.params) (.bool p.vararg) (.int .i64 p.regs) (.isl (p.lines.map zline)) (.isl p.consts) (.isl (p.protos.map Pro.row)) (.isl (p.ups.map upRow)) (.isl p.vars)
  have hbk := fun (hc : p.code.length ≤ 80) h => blocks_pure p.code (by omega) (.str p.name) (.int .i64 p.line) (.int .i64 p.params) (.bool p.vararg) (.int .i64 p.regs) (.isl (p.lines.map zline)) (.isl p.consts) (.isl (p.protos.map Pro.row)) (.isl (p.ups.map upRow)) (.isl p.vars) h
  have hlen : (p.code.map Ins.row).length = p.code.length := List.length_map ..
  have hrow : ∀ (k : Nat) (x : Ins), p.code[k]? = some x → (p.code.map Ins.row)[k]? = some x.row := fun k x h => by rw [List.getElem?_map, h]; rfl
  have hsz : rowsz (p.code.map Ins.row) 5 = True := eq_true fun r hr => by obtain ⟨y, _, rfl⟩ := List.mem_map.1 hr; rfl
  generalize p.protos.map Pro.row = c8 at *
  generalize p.code.map Ins.row = es at *
  generalize p.lines.map zline = c6 at *
  generalize p.ups.map upRow = c9 at *
  have hsub' := hsub
  simp only [List.map_cons, List.map_nil, List.cons.injEq, and_true, true_and, V.sub, subLL_map, V.isl.injEq] at hsub'
  refine Run.go 100 ?_
  simp -implicitDefEqProofs only [go_sem, Nat.reduceEqDiff, Nat.reduceAdd, Nat.reduceSub, Nat.reduceMul, Nat.reduceLeDiff, Nat.reduceLT, Nat.reduceBEq, Int.reduceToNat, Int.reduceLE, Int.reduceLT, Int.reduceEq, Int.reduceNe, Int.reduceAdd, Int.reduceSub, Int.reduceNeg, Int.toNat_natCast, Int.cast_ofNat_Int, Int.natCast_zero, Int.natCast_one, reduceCtorEq, reduceIte, Nat.lt_irrefl, and_self, not_false_eq_true, not_true_eq_false, Ins.v, Ins.row, initSl]
  refine CallS.pure hlarge (by simp -implicitDefEqProofs only [go_sem, Nat.reduceEqDiff, Nat.reduceAdd, Nat.reduceSub, Nat.reduceMul, Nat.reduceLeDiff, Nat.reduceLT, Nat.reduceBEq, Int.reduceToNat, Int.reduceLE, Int.reduceLT, Int.reduceEq, Int.reduceNe, Int.reduceAdd, Int.reduceSub, Int.reduceNeg, Int.toNat_natCast, Int.cast_ofNat_Int, Int.natCast_zero, Int.natCast_one, reduceCtorEq, reduceIte, Nat.lt_irrefl, and_self, not_false_eq_true, not_true_eq_false, Ins.v, Ins.row, hsub']) ?_
  cases hL : largeB p with
  | true =>
    simp -implicitDefEqProofs only [go_sem, Nat.reduceEqDiff, Nat.reduceAdd, Nat.reduceSub, Nat.reduceMul, Nat.reduceLeDiff, Nat.reduceLT, Nat.reduceBEq, Int.reduceToNat, Int.reduceLE, Int.reduceLT, Int.reduceEq, Int.reduceNe, Int.reduceAdd, Int.reduceSub, Int.reduceNeg, Int.toNat_natCast, Int.cast_ofNat_Int, Int.natCast_zero, Int.natCast_one, reduceCtorEq, reduceIte, Nat.lt_irrefl, and_self, not_false_eq_true, not_true_eq_false, Ins.v, Ins.row]
    refine CallS.pureF awake_pure (by simp -implicitDefEqProofs only [go_sem, Nat.reduceEqDiff, Nat.reduceAdd, Nat.reduceSub, Nat.reduceMul, Nat.reduceLeDiff, Nat.reduceLT, Nat.reduceBEq, Int.reduceToNat, Int.reduceLE, Int.reduceLT, Int.reduceEq, Int.reduceNe, Int.reduceAdd, Int.reduceSub, Int.reduceNeg, Int.toNat_natCast, Int.cast_ofNat_Int, Int.natCast_zero, Int.natCast_one, reduceCtorEq, reduceIte, Nat.lt_irrefl, and_self, not_false_eq_true, not_true_eq_false, Ins.v, Ins.row]) ?_
    simp -implicitDefEqProofs only [go_sem, Nat.reduceEqDiff, Nat.reduceAdd, Nat.reduceSub, Nat.reduceMul, Nat.reduceLeDiff, Nat.reduceLT, Nat.reduceBEq, Int.reduceToNat, Int.reduceLE, Int.reduceLT, Int.reduceEq, Int.reduceNe, Int.reduceAdd, Int.reduceSub, Int.reduceNeg, Int.toNat_natCast, Int.cast_ofNat_Int, Int.natCast_zero, Int.natCast_one, reduceCtorEq, reduceIte, Nat.lt_irrefl, and_self, not_false_eq_true, not_true_eq_false, Ins.v, Ins.row]
  | false =>
    have hS := Small.of hL
    have hc := hS.code
    replace hnx := hnx hc
    replace hbk := hbk hc (by simp only [List.map_cons, List.map_nil, V.sub, subLL_map, hsub'])
    simp -implicitDefEqProofs only [go_sem, Nat.reduceEqDiff, Nat.reduceAdd, Nat.reduceSub, Nat.reduceMul, Nat.reduceLeDiff, Nat.reduceLT, Nat.reduceBEq, Int.reduceToNat, Int.reduceLE, Int.reduceLT, Int.reduceEq, Int.reduceNe, Int.reduceAdd, Int.reduceSub, Int.reduceNeg, Int.toNat_natCast, Int.cast_ofNat_Int, Int.natCast_zero, Int.natCast_one, reduceCtorEq, reduceIte, Nat.lt_irrefl, and_self, not_false_eq_true, not_true_eq_false, Ins.v, Ins.row, hlen]
    have hlm : ((blkL p.code).map (rowN p.code)).length = (blkL p.code).length := List.length_map ..
    have hrm : ∀ (j : Nat) b, (blkL p.code)[j]? = some b → ((blkL p.code).map (rowN p.code))[j]? = some (rowN p.code b) := fun j b h => by rw [List.getElem?_map, h]; rfl
    have hzm : rowsz ((blkL p.code).map (rowN p.code)) 3 = True := eq_true fun r hr => by obtain ⟨y, _, rfl⟩ := List.mem_map.1 hr; rfl
    have hea := @endT_at p.code
    have heal := @endT_all p.code
    have hnum := @num_at p.code
    have hpos := (bi_at p.code p.code.length).pos
    have hmid := (bi_at p.code p.code.length).mid
    rw [show blkT p.code p.code.length = blkL p.code from rfl] at hpos hmid
    have hble : (blkL p.code).length ≤ p.code.length := blkT_len_le _ _
    generalize (blkL p.code).map (rowN p.code) = BR at *
    generalize blkL p.code = bl at *
    refine CallS.pure hbk (by simp -implicitDefEqProofs only [go_sem, Nat.reduceEqDiff, Nat.reduceAdd, Nat.reduceSub, Nat.reduceMul, Nat.reduceLeDiff, Nat.reduceLT, Nat.reduceBEq, Int.reduceToNat, Int.reduceLE, Int.reduceLT, Int.reduceEq, Int.reduceNe, Int.reduceAdd, Int.reduceSub, Int.reduceNeg, Int.toNat_natCast, Int.cast_ofNat_Int, Int.natCast_zero, Int.natCast_one, reduceCtorEq, reduceIte, Nat.lt_irrefl, and_self, not_false_eq_true, not_true_eq_false, Ins.v, Ins.row, hsub']) ?_
    simp -implicitDefEqProofs only [go_sem, Nat.reduceEqDiff, Nat.reduceAdd, Nat.reduceSub, Nat.reduceMul, Nat.reduceLeDiff, Nat.reduceLT, Nat.reduceBEq, Int.reduceToNat, Int.reduceLE, Int.reduceLT, Int.reduceEq, Int.reduceNe, Int.reduceAdd, Int.reduceSub, Int.reduceNeg, Int.toNat_natCast, Int.cast_ofNat_Int, Int.natCast_zero, Int.natCast_one, reduceCtorEq, reduceIte, Nat.lt_irrefl, and_self, not_false_eq_true, not_true_eq_false, Ins.v, Ins.row, hlm]
    refine Run.rounds (fun (x : Nat) => ⟨[(16, .int .i64 x), (15, .int .i64 bl.length), (4, .int .i64 (endT bl x)), (3, .isl BR), (1, .ptr (6 * 10000 + 1) 0 0 0)], [((6 * 10000 + 1), 0, .rows 11 [[.str p.name, .int .i64 p.line, .int .i64 p.params, .bool p.vararg, .int .i64 p.regs, .isl es, .isl c6, .isl p.consts, .isl c8, .isl c9, .isl p.vars]])], 1⟩) (fun x => x ≤ bl.length) (fun x => bl.length - x) 0 (by simp -implicitDefEqProofs only [go_sem, Nat.reduceEqDiff, Nat.reduceAdd, Nat.reduceSub, Nat.reduceMul, Nat.reduceLeDiff, Nat.reduceLT, Nat.reduceBEq, Int.reduceToNat, Int.reduceLE, Int.reduceLT, Int.reduceEq, Int.reduceNe, Int.reduceAdd, Int.reduceSub, Int.reduceNeg, Int.toNat_natCast, Int.cast_ofNat_Int, Int.natCast_zero, Int.natCast_one, reduceCtorEq, reduceIte, Nat.lt_irrefl, and_self, not_false_eq_true, not_true_eq_false, Ins.v, Ins.row, endT]) (by omega) ?_
    intro j hj ih
    have hz : ((j + 1 : Nat) : Int) = (j : Int) + 1 := by omega
    refine Run.unf scriptinglaw35_FlowCovers_l0_eq (Run.go 100 ?_)
    by_cases c : (j : Int) < bl.length
    rotate_left
    · have e : j = bl.length := by omega
      subst e
      have e2 : ((p.code.length : Int) = (p.code.length : Int)) = True := eq_true rfl
      simp -implicitDefEqProofs only [go_sem, Nat.reduceEqDiff, Nat.reduceAdd, Nat.reduceSub, Nat.reduceMul, Nat.reduceLeDiff, Nat.reduceLT, Nat.reduceBEq, Int.reduceToNat, Int.reduceLE, Int.reduceLT, Int.reduceEq, Int.reduceNe, Int.reduceAdd, Int.reduceSub, Int.reduceNeg, Int.toNat_natCast, Int.cast_ofNat_Int, Int.natCast_zero, Int.natCast_one, reduceCtorEq, reduceIte, Nat.lt_irrefl, and_self, not_false_eq_true, not_true_eq_false, Ins.v, Ins.row, c, heal, hlen]
      refine CallS.pureF awake_pure (by simp -implicitDefEqProofs only [go_sem, Nat.reduceEqDiff, Nat.reduceAdd, Nat.reduceSub, Nat.reduceMul, Nat.reduceLeDiff, Nat.reduceLT, Nat.reduceBEq, Int.reduceToNat, Int.reduceLE, Int.reduceLT, Int.reduceEq, Int.reduceNe, Int.reduceAdd, Int.reduceSub, Int.reduceNeg, Int.toNat_natCast, Int.cast_ofNat_Int, Int.natCast_zero, Int.natCast_one, reduceCtorEq, reduceIte, Nat.lt_irrefl, and_self, not_false_eq_true, not_true_eq_false, Ins.v, Ins.row]) ?_
      simp -implicitDefEqProofs only [go_sem, Nat.reduceEqDiff, Nat.reduceAdd, Nat.reduceSub, Nat.reduceMul, Nat.reduceLeDiff, Nat.reduceLT, Nat.reduceBEq, Int.reduceToNat, Int.reduceLE, Int.reduceLT, Int.reduceEq, Int.reduceNe, Int.reduceAdd, Int.reduceSub, Int.reduceNeg, Int.toNat_natCast, Int.cast_ofNat_Int, Int.natCast_zero, Int.natCast_one, reduceCtorEq, reduceIte, Nat.lt_irrefl, and_self, not_false_eq_true, not_true_eq_false, Ins.v, Ins.row]
    obtain ⟨b, hb⟩ : ∃ b, bl[j]? = some b := ⟨bl[j]'(by omega), by simp⟩
    have hbm := List.mem_of_getElem? hb
    have hbp := hpos b hbm
    have hbe := hea hb
    have hes := endT_succ hb
    have hr := hrm j b hb
    have hnumb := fun t (ht : t ∈ nextL p.code (b.2 - 1)) => hnum hbm ht
    have hmidb := hmid b hbm
    have hrN : rowN p.code b = [.int .i64 b.1, .int .i64 b.2, .isl (((nextL p.code (b.2 - 1)).map (numB p.code)).map zrw)] := rfl
    rw [hrN] at hr
    clear hrN
    have k0 : ((0 : Int) ≤ (j : Int)) = True := eq_true (by omega)
    have k1 : ((j : Int) < (bl.length : Int)) = True := eq_true c
    have k2 : (j < bl.length) = True := eq_true (by omega)
    rw [← hbe]
    have b1 : (b.2 ≤ b.1) = False := eq_false (by omega)
    have b2 : ((p.code.length : Int) < b.2) = False := eq_false (by omega)
    simp -implicitDefEqProofs only [go_sem, Nat.reduceEqDiff, Nat.reduceAdd, Nat.reduceSub, Nat.reduceMul, Nat.reduceLeDiff, Nat.reduceLT, Nat.reduceBEq, Int.reduceToNat, Int.reduceLE, Int.reduceLT, Int.reduceEq, Int.reduceNe, Int.reduceAdd, Int.reduceSub, Int.reduceNeg, Int.toNat_natCast, Int.cast_ofNat_Int, Int.natCast_zero, Int.natCast_one, reduceCtorEq, reduceIte, Nat.lt_irrefl, and_self, not_false_eq_true, not_true_eq_false, Ins.v, Ins.row, c, hlen, hlm, hr, hzm, k0, k1, k2, b1, b2, Option.some.injEq, forall_eq']
    refine Run.rounds (fun (x : Nat) => ⟨[(16, .int .i64 j), (15, .int .i64 bl.length), (6, .int .i64 (b.1 + x)), (5, .int .i64 j), (4, .int .i64 b.2), (3, .isl BR), (1, .ptr (6 * 10000 + 1) 0 0 0)], [((6 * 10000 + 1), 0, .rows 11 [[.str p.name, .int .i64 p.line, .int .i64 p.params, .bool p.vararg, .int .i64 p.regs, .isl es, .isl c6, .isl p.consts, .isl c8, .isl c9, .isl p.vars]])], 1⟩) (fun x => b.1 + x ≤ b.2 - 1) (fun x => (b.2 - 1 - b.1).toNat - x) 0 (by simp -implicitDefEqProofs only [go_sem, Nat.reduceEqDiff, Nat.reduceAdd, Nat.reduceSub, Nat.reduceMul, Nat.reduceLeDiff, Nat.reduceLT, Nat.reduceBEq, Int.reduceToNat, Int.reduceLE, Int.reduceLT, Int.reduceEq, Int.reduceNe, Int.reduceAdd, Int.reduceSub, Int.reduceNeg, Int.toNat_natCast, Int.cast_ofNat_Int, Int.natCast_zero, Int.natCast_one, reduceCtorEq, reduceIte, Nat.lt_irrefl, and_self, not_false_eq_true, not_true_eq_false, Ins.v, Ins.row, Int.add_zero]) (by omega) ?_
    intro m hm ih1
    refine Run.unf scriptinglaw35_FlowCovers_l1_eq (Run.go 100 ?_)
    by_cases c1 : b.1 + m < b.2 - 1
    · obtain ⟨K, hK⟩ : ∃ K : Nat, b.1 + m = K := ⟨(b.1 + m).toNat, by omega⟩
      have hK2 : b.1 + ((m + 1 : Nat) : Int) = (K : Int) + 1 := by omega
      rw [hK] at c1 ⊢
      have hnm := next_mid (code := p.code) (k := K) (by omega) (hmidb ((K : Int) + 1) (by omega) (by omega))
      have hnk := hnx K
      rw [hnm] at hnk
      have hir := ints_refl [(K : Int) + 1] (by simp)
      simp only [List.map_cons, List.map_nil, zrw] at hnk hir
      simp -implicitDefEqProofs only [go_sem, Nat.reduceEqDiff, Nat.reduceAdd, Nat.reduceSub, Nat.reduceMul, Nat.reduceLeDiff, Nat.reduceLT, Nat.reduceBEq, Int.reduceToNat, Int.reduceLE, Int.reduceLT, Int.reduceEq, Int.reduceNe, Int.reduceAdd, Int.reduceSub, Int.reduceNeg, Int.toNat_natCast, Int.cast_ofNat_Int, Int.natCast_zero, Int.natCast_one, reduceCtorEq, reduceIte, Nat.lt_irrefl, and_self, not_false_eq_true, not_true_eq_false, Ins.v, Ins.row, c1]
      refine ⟨by omega, ?_⟩
      refine CallS.pure hnk (by simp -implicitDefEqProofs only [go_sem, Nat.reduceEqDiff, Nat.reduceAdd, Nat.reduceSub, Nat.reduceMul, Nat.reduceLeDiff, Nat.reduceLT, Nat.reduceBEq, Int.reduceToNat, Int.reduceLE, Int.reduceLT, Int.reduceEq, Int.reduceNe, Int.reduceAdd, Int.reduceSub, Int.reduceNeg, Int.toNat_natCast, Int.cast_ofNat_Int, Int.natCast_zero, Int.natCast_one, reduceCtorEq, reduceIte, Nat.lt_irrefl, and_self, not_false_eq_true, not_true_eq_false, Ins.v, Ins.row, hsub']) ?_
      simp -implicitDefEqProofs only [go_sem, Nat.reduceEqDiff, Nat.reduceAdd, Nat.reduceSub, Nat.reduceMul, Nat.reduceLeDiff, Nat.reduceLT, Nat.reduceBEq, Int.reduceToNat, Int.reduceLE, Int.reduceLT, Int.reduceEq, Int.reduceNe, Int.reduceAdd, Int.reduceSub, Int.reduceNeg, Int.toNat_natCast, Int.cast_ofNat_Int, Int.natCast_zero, Int.natCast_one, reduceCtorEq, reduceIte, Nat.lt_irrefl, and_self, not_false_eq_true, not_true_eq_false, Ins.v, Ins.row]
      refine ⟨by omega, ?_⟩
      refine CallS.pure hir (by simp -implicitDefEqProofs only [go_sem, Nat.reduceEqDiff, Nat.reduceAdd, Nat.reduceSub, Nat.reduceMul, Nat.reduceLeDiff, Nat.reduceLT, Nat.reduceBEq, Int.reduceToNat, Int.reduceLE, Int.reduceLT, Int.reduceEq, Int.reduceNe, Int.reduceAdd, Int.reduceSub, Int.reduceNeg, Int.toNat_natCast, Int.cast_ofNat_Int, Int.natCast_zero, Int.natCast_one, reduceCtorEq, reduceIte, Nat.lt_irrefl, and_self, not_false_eq_true, not_true_eq_false, Ins.v, Ins.row]) ?_
      simp -implicitDefEqProofs only [go_sem, Nat.reduceEqDiff, Nat.reduceAdd, Nat.reduceSub, Nat.reduceMul, Nat.reduceLeDiff, Nat.reduceLT, Nat.reduceBEq, Int.reduceToNat, Int.reduceLE, Int.reduceLT, Int.reduceEq, Int.reduceNe, Int.reduceAdd, Int.reduceSub, Int.reduceNeg, Int.toNat_natCast, Int.cast_ofNat_Int, Int.natCast_zero, Int.natCast_one, reduceCtorEq, reduceIte, Nat.lt_irrefl, and_self, not_false_eq_true, not_true_eq_false, Ins.v, Ins.row]
      refine ⟨by omega, ih1 _ (m + 1) (by omega) (by omega) ?_⟩
      simp only [hK2]
      simp -implicitDefEqProofs only [go_sem, Nat.reduceEqDiff, Nat.reduceAdd, Nat.reduceSub, Nat.reduceMul, Nat.reduceLeDiff, Nat.reduceLT, Nat.reduceBEq, Int.reduceToNat, Int.reduceLE, Int.reduceLT, Int.reduceEq, Int.reduceNe, Int.reduceAdd, Int.reduceSub, Int.reduceNeg, Int.toNat_natCast, Int.cast_ofNat_Int, Int.natCast_zero, Int.natCast_one, reduceCtorEq, reduceIte, Nat.lt_irrefl, and_self, not_false_eq_true, not_true_eq_false, Ins.v, Ins.row]
    have hme : b.1 + m = b.2 - 1 := by omega
    rw [hme]
    have d1 : (b.2 - 1 < b.2 - 1) = False := eq_false (by omega)
    clear ih1
    simp -implicitDefEqProofs only [go_sem, Nat.reduceEqDiff, Nat.reduceAdd, Nat.reduceSub, Nat.reduceMul, Nat.reduceLeDiff, Nat.reduceLT, Nat.reduceBEq, Int.reduceToNat, Int.reduceLE, Int.reduceLT, Int.reduceEq, Int.reduceNe, Int.reduceAdd, Int.reduceSub, Int.reduceNeg, Int.toNat_natCast, Int.cast_ofNat_Int, Int.natCast_zero, Int.natCast_one, reduceCtorEq, reduceIte, Nat.lt_irrefl, and_self, not_false_eq_true, not_true_eq_false, Ins.v, Ins.row, d1]
    refine ⟨by omega, by omega, ?_⟩
    refine CallS.pure (hnx (b.2 - 1)) (by simp -implicitDefEqProofs only [go_sem, Nat.reduceEqDiff, Nat.reduceAdd, Nat.reduceSub, Nat.reduceMul, Nat.reduceLeDiff, Nat.reduceLT, Nat.reduceBEq, Int.reduceToNat, Int.reduceLE, Int.reduceLT, Int.reduceEq, Int.reduceNe, Int.reduceAdd, Int.reduceSub, Int.reduceNeg, Int.toNat_natCast, Int.cast_ofNat_Int, Int.natCast_zero, Int.natCast_one, reduceCtorEq, reduceIte, Nat.lt_irrefl, and_self, not_false_eq_true, not_true_eq_false, Ins.v, Ins.row, hsub']) ?_
    have hnl := nextL_len2 p.code (b.2 - 1)
    generalize nextL p.code (b.2 - 1) = nl at *
    have hnls : ∀ (i : Nat) (x : Int), nl[i]? = some x → (nl.map zrw)[i]? = some [.int .i64 x] := fun i x h => by rw [List.getElem?_map, h]; rfl
    have hnll : (nl.map zrw).length = nl.length := List.length_map ..
    have hnlz : rowsz (nl.map zrw) 1 = True := eq_true fun r hr => by obtain ⟨y, _, rfl⟩ := List.mem_map.1 hr; rfl
    have hmls : ∀ (i : Nat) (x : Int), nl[i]? = some x → ((nl.map (numB p.code)).map zrw)[i]? = some [.int .i64 (numB p.code x)] := fun i x h => by rw [List.getElem?_map, List.getElem?_map, h]; rfl
    have hmll : ((nl.map (numB p.code)).map zrw).length = nl.length := by simp
    have hmlz : rowsz ((nl.map (numB p.code)).map zrw) 1 = True := eq_true fun r hr => by obtain ⟨y, _, rfl⟩ := List.mem_map.1 hr; rfl
    generalize (nl.map (numB p.code)).map zrw = mls at *
    generalize nl.map zrw = nls at *
    have e2 : ((nl.length : Int) = (nl.length : Int)) = True := eq_true rfl
    simp -implicitDefEqProofs only [go_sem, Nat.reduceEqDiff, Nat.reduceAdd, Nat.reduceSub, Nat.reduceMul, Nat.reduceLeDiff, Nat.reduceLT, Nat.reduceBEq, Int.reduceToNat, Int.reduceLE, Int.reduceLT, Int.reduceEq, Int.reduceNe, Int.reduceAdd, Int.reduceSub, Int.reduceNeg, Int.toNat_natCast, Int.cast_ofNat_Int, Int.natCast_zero, Int.natCast_one, reduceCtorEq, reduceIte, Nat.lt_irrefl, and_self, not_false_eq_true, not_true_eq_false, Ins.v, Ins.row, hlm, hr, hzm, hnll, hmll, k0, k1, k2, Option.some.injEq, forall_eq']
    refine Run.rounds (fun (x : Nat) => ⟨[(85, .int .i64 x), (84, .int .i64 nl.length), (16, .int .i64 j), (15, .int .i64 bl.length), (7, .isl nls), (5, .int .i64 j), (4, .int .i64 b.2), (3, .isl BR), (1, .ptr (6 * 10000 + 1) 0 0 0)], [((6 * 10000 + 1), 0, .rows 11 [[.str p.name, .int .i64 p.line, .int .i64 p.params, .bool p.vararg, .int .i64 p.regs, .isl es, .isl c6, .isl p.consts, .isl c8, .isl c9, .isl p.vars]])], 1⟩) (fun x => x ≤ nl.length) (fun x => nl.length - x) 0 (by simp -implicitDefEqProofs only [go_sem, Nat.reduceEqDiff, Nat.reduceAdd, Nat.reduceSub, Nat.reduceMul, Nat.reduceLeDiff, Nat.reduceLT, Nat.reduceBEq, Int.reduceToNat, Int.reduceLE, Int.reduceLT, Int.reduceEq, Int.reduceNe, Int.reduceAdd, Int.reduceSub, Int.reduceNeg, Int.toNat_natCast, Int.cast_ofNat_Int, Int.natCast_zero, Int.natCast_one, reduceCtorEq, reduceIte, Nat.lt_irrefl, and_self, not_false_eq_true, not_true_eq_false, Ins.v, Ins.row]) (by omega) ?_
    intro i hi ih2
    have hz2 : ((i + 1 : Nat) : Int) = (i : Int) + 1 := by omega
    refine Run.unf scriptinglaw35_FlowCovers_l2_eq (Run.go 100 ?_)
    by_cases c2 : (i : Int) < nl.length
    rotate_left
    · simp -implicitDefEqProofs only [go_sem, Nat.reduceEqDiff, Nat.reduceAdd, Nat.reduceSub, Nat.reduceMul, Nat.reduceLeDiff, Nat.reduceLT, Nat.reduceBEq, Int.reduceToNat, Int.reduceLE, Int.reduceLT, Int.reduceEq, Int.reduceNe, Int.reduceAdd, Int.reduceSub, Int.reduceNeg, Int.toNat_natCast, Int.cast_ofNat_Int, Int.natCast_zero, Int.natCast_one, reduceCtorEq, reduceIte, Nat.lt_irrefl, and_self, not_false_eq_true, not_true_eq_false, Ins.v, Ins.row, c2]
      exact ⟨by omega, ih _ (j + 1) (by omega) (by omega) (by simp only [hz, hes]; simp -implicitDefEqProofs only [go_sem, Nat.reduceEqDiff, Nat.reduceAdd, Nat.reduceSub, Nat.reduceMul, Nat.reduceLeDiff, Nat.reduceLT, Nat.reduceBEq, Int.reduceToNat, Int.reduceLE, Int.reduceLT, Int.reduceEq, Int.reduceNe, Int.reduceAdd, Int.reduceSub, Int.reduceNeg, Int.toNat_natCast, Int.cast_ofNat_Int, Int.natCast_zero, Int.natCast_one, reduceCtorEq, reduceIte, Nat.lt_irrefl, and_self, not_false_eq_true, not_true_eq_false, Ins.v, Ins.row])⟩
    obtain ⟨x, hx⟩ : ∃ x, nl[i]? = some x := ⟨nl[i]'(by omega), by simp⟩
    obtain ⟨v, cb, hv1, hv2, hv3⟩ := hnumb x (List.mem_of_getElem? hx)
    have hxr := hnls i x hx
    have hmr := hmls i x hx
    rw [hv1] at hmr
    have hcr := hrm v cb hv2
    have hcN : rowN p.code cb = [.int .i64 x, .int .i64 cb.2, .isl (((nextL p.code (cb.2 - 1)).map (numB p.code)).map zrw)] := by rw [← hv3]; rfl
    rw [hcN] at hcr
    have hvl := (List.getElem?_eq_some_iff.1 hv2).1
    have i0 : ((0 : Int) ≤ (i : Int)) = True := eq_true (by omega)
    have i1 : ((i : Int) < (nl.length : Int)) = True := eq_true c2
    have i2 : (i < nl.length) = True := eq_true (by omega)
    have v0 : ((0 : Int) ≤ (v : Int)) = True := eq_true (by omega)
    have v1 : ((v : Int) < (bl.length : Int)) = True := eq_true (by omega)
    have v2 : (v < bl.length) = True := eq_true hvl
    have v3 : ((v : Int) < 0) = False := eq_false (by omega)
    have v4 : ((bl.length : Int) ≤ (v : Int)) = False := eq_false (by omega)
    generalize ((nextL p.code (cb.2 - 1)).map (numB p.code)).map zrw = qq at *
    simp -implicitDefEqProofs only [go_sem, Nat.reduceEqDiff, Nat.reduceAdd, Nat.reduceSub, Nat.reduceMul, Nat.reduceLeDiff, Nat.reduceLT, Nat.reduceBEq, Int.reduceToNat, Int.reduceLE, Int.reduceLT, Int.reduceEq, Int.reduceNe, Int.reduceAdd, Int.reduceSub, Int.reduceNeg, Int.toNat_natCast, Int.cast_ofNat_Int, Int.natCast_zero, Int.natCast_one, reduceCtorEq, reduceIte, Nat.lt_irrefl, and_self, not_false_eq_true, not_true_eq_false, Ins.v, Ins.row, c2, hlm, hr, hzm, hnll, hmll, hnlz, hmlz, hxr, hmr, hcr, k0, k1, k2, i0, i1, i2, v0, v1, v2, v3, v4, Option.some.injEq, forall_eq']
    exact ⟨by omega, ih2 _ (i + 1) (by omega) (by omega) (by simp only [hz2]; simp -implicitDefEqProofs only [go_sem, Nat.reduceEqDiff, Nat.reduceAdd, Nat.reduceSub, Nat.reduceMul, Nat.reduceLeDiff, Nat.reduceLT, Nat.reduceBEq, Int.reduceToNat, Int.reduceLE, Int.reduceLT, Int.reduceEq, Int.reduceNe, Int.reduceAdd, Int.reduceSub, Int.reduceNeg, Int.toNat_natCast, Int.cast_ofNat_Int, Int.natCast_zero, Int.natCast_one, reduceCtorEq, reduceIte, Nat.lt_irrefl, and_self, not_false_eq_true, not_true_eq_false, Ins.v, Ins.row])⟩
end Go.Proofs.YtccghnpcfkifjaaDoor
