/-
  FlowBlocks. No condition.
-/
import Derived.Test.YtccghnpcfkifjaaDoorBlkS
import Derived.Test.YtccghnpcfkifjaaDoorFlow0
set_option linter.unusedVariables false
set_option linter.unusedSimpArgs false
set_option maxRecDepth 100000
set_option maxHeartbeats 0
namespace Go.Proofs.YtccghnpcfkifjaaDoor
open Go.Abs
attribute [local irreducible] CallS Run
-- EVSHORT
-- EV: Ins.v, Ins.row

theorem flowBlocks_args (n0 : List V) (w0 : Typed Tryd.prog 29 n0) : Pure Tryd.prog 4 [.agg n0] (.bool true) := by
  obtain ⟨p, rfl, hsub, hmax⟩ := proto_found w0
  have hB : p.protos.length ≤ 9223372036854775807 := Nat.le_trans hmax (by decide)
  have hlarge := large_pure p hB
  refine Pure.of 0 (CallS.enter scriptinglaw35_FlowBlocks_ok (Nat.le_of_ble_eq_true rfl) ?_)
  have hpr := p.row_eq
  rw [hpr] at hsub hlarge ⊢
  have hbk := fun (hc : p.code.length ≤ 80) h => blocks_pure p.code (by omega) (.str p.name) (.int .i64 p.line) (.int .i64 p.params) (.bool p.vararg) (.int .i64 p.regs) (.isl (p.lines.map zline)) (.isl p.consts) (.isl (p.protos.map Pro.row)) (.isl (p.ups.map upRow)) (.isl p.vars) h
  have hrbk := fun (hc : p.code.length ≤ 80) h => rblocks_pure p.code (by omega) (.str p.name) (.int .i64 p.line) (.int .i64 p.params) (.bool p.vararg) (.int .i64 p.regs) (.isl (p.lines.map zline)) (.isl p.consts) (.isl (p.protos.map Pro.row)) (.isl (p.ups.map upRow)) (.isl p.vars) h
  have hlen : (p.code.map Ins.row).length = p.code.length := List.length_map ..
  have hrow : ∀ (k : Nat) (x : Ins), p.code[k]? = some x → (p.code.map Ins.row)[k]? = some x.row := fun k x h => by rw [List.getElem?_map, h]; rfl
  have hsz : rowsz (p.code.map Ins.row) 5 = True := eq_true fun r hr => by obtain ⟨y, _, rfl⟩ := List.mem_map.1 hr; rfl
  generalize p.protos.map Pro.row = c8 at *
  generalize p.code.map Ins.row = es at *
  generalize p.lines.map zline = c6 at *
  generalize p.ups.map upRow = c9 at *
  have hsub' := hsub
  simp only [List.map_cons, List.map_nil, List.cons.injEq, and_true, true_and, V.sub, subLL_map, V.isl.injEq] at hsub'
  refine Run.go 100 ?_
  simp -implicitDefEqProofs only [go_sem, Nat.reduceEqDiff, Nat.reduceAdd, Nat.reduceMul, Nat.reduceLeDiff, Nat.reduceLT, Nat.reduceBEq, Int.reduceLT, Int.toNat_natCast, Int.cast_ofNat_Int, Int.natCast_zero, reduceCtorEq, reduceIte, and_self, not_false_eq_true, not_true_eq_false, Ins.v, Ins.row, initSl]
  refine CallS.pure hlarge (by simp -implicitDefEqProofs only [go_sem, Nat.reduceEqDiff, Nat.reduceAdd, Nat.reduceMul, Nat.reduceLeDiff, Nat.reduceLT, Nat.reduceBEq, Int.reduceLT, Int.toNat_natCast, Int.cast_ofNat_Int, Int.natCast_zero, reduceCtorEq, reduceIte, and_self, not_false_eq_true, not_true_eq_false, Ins.v, Ins.row, hsub']) ?_
  cases hL : largeB p with
  | true =>
    simp -implicitDefEqProofs only [go_sem, Nat.reduceEqDiff, Nat.reduceAdd, Nat.reduceMul, Nat.reduceLeDiff, Nat.reduceLT, Nat.reduceBEq, Int.reduceLT, Int.toNat_natCast, Int.cast_ofNat_Int, Int.natCast_zero, reduceCtorEq, reduceIte, and_self, not_false_eq_true, not_true_eq_false, Ins.v, Ins.row]
    refine CallS.pureF awake_pure (by simp -implicitDefEqProofs only [go_sem, Nat.reduceEqDiff, Nat.reduceAdd, Nat.reduceMul, Nat.reduceLeDiff, Nat.reduceLT, Nat.reduceBEq, Int.reduceLT, Int.toNat_natCast, Int.cast_ofNat_Int, Int.natCast_zero, reduceCtorEq, reduceIte, and_self, not_false_eq_true, not_true_eq_false, Ins.v, Ins.row]) ?_
    simp -implicitDefEqProofs only [go_sem, Nat.reduceEqDiff, Nat.reduceAdd, Nat.reduceMul, Nat.reduceLeDiff, Nat.reduceLT, Nat.reduceBEq, Int.reduceLT, Int.toNat_natCast, Int.cast_ofNat_Int, Int.natCast_zero, reduceCtorEq, reduceIte, and_self, not_false_eq_true, not_true_eq_false, Ins.v, Ins.row]
  | false =>
    have hS := Small.of hL
    have hc := hS.code
    replace hbk := hbk hc (by simp only [List.map_cons, List.map_nil, V.sub, subLL_map, hsub'])
    replace hrbk := hrbk hc (by simp only [List.map_cons, List.map_nil, V.sub, subLL_map, hsub'])
    have hlm : ((blkL p.code).map (rowN p.code)).length = (blkL p.code).length := List.length_map ..
    have hrm : ∀ (j : Nat) b, (blkL p.code)[j]? = some b → ((blkL p.code).map (rowN p.code))[j]? = some (rowN p.code b) := fun j b h => by rw [List.getElem?_map, h]; rfl
    have hzm : rowsz ((blkL p.code).map (rowN p.code)) 3 = True := eq_true fun r hr => by obtain ⟨y, _, rfl⟩ := List.mem_map.1 hr; rfl
    have hsm : ((blkL p.code).map (rowN p.code)).map (fun r => r.map (V.sub lost)) = (blkL p.code).map (rowN p.code) := frzN 0 [] p.code (blkL p.code)
    have hble : (blkL p.code).length ≤ p.code.length := blkT_len_le _ _
    generalize (blkL p.code).map (rowN p.code) = BR at *
    generalize blkL p.code = bl at *
    simp -implicitDefEqProofs only [go_sem, Nat.reduceEqDiff, Nat.reduceAdd, Nat.reduceMul, Nat.reduceLeDiff, Nat.reduceLT, Nat.reduceBEq, Int.reduceLT, Int.toNat_natCast, Int.cast_ofNat_Int, Int.natCast_zero, reduceCtorEq, reduceIte, and_self, not_false_eq_true, not_true_eq_false, Ins.v, Ins.row]
    repeat' first
      | refine And.intro ?_ ?_
      | (refine CallS.pure hbk ?_ ?_; (focus (simp -implicitDefEqProofs only [go_sem, Nat.reduceEqDiff, Nat.reduceAdd, Nat.reduceMul, Nat.reduceLeDiff, Nat.reduceLT, Nat.reduceBEq, Int.reduceLT, Int.toNat_natCast, Int.cast_ofNat_Int, Int.natCast_zero, reduceCtorEq, reduceIte, and_self, not_false_eq_true, not_true_eq_false, Ins.v, Ins.row, hsub']; done)); simp -implicitDefEqProofs only [go_sem, Nat.reduceEqDiff, Nat.reduceAdd, Nat.reduceMul, Nat.reduceLeDiff, Nat.reduceLT, Nat.reduceBEq, Int.reduceLT, Int.toNat_natCast, Int.cast_ofNat_Int, Int.natCast_zero, reduceCtorEq, reduceIte, and_self, not_false_eq_true, not_true_eq_false, Ins.v, Ins.row, hlm])
      | (refine CallS.pure hrbk ?_ ?_; (focus (simp -implicitDefEqProofs only [go_sem, Nat.reduceEqDiff, Nat.reduceAdd, Nat.reduceMul, Nat.reduceLeDiff, Nat.reduceLT, Nat.reduceBEq, Int.reduceLT, Int.toNat_natCast, Int.cast_ofNat_Int, Int.natCast_zero, reduceCtorEq, reduceIte, and_self, not_false_eq_true, not_true_eq_false, Ins.v, Ins.row, hsub']; done)); simp -implicitDefEqProofs only [go_sem, Nat.reduceEqDiff, Nat.reduceAdd, Nat.reduceMul, Nat.reduceLeDiff, Nat.reduceLT, Nat.reduceBEq, Int.reduceLT, Int.toNat_natCast, Int.cast_ofNat_Int, Int.natCast_zero, reduceCtorEq, reduceIte, and_self, not_false_eq_true, not_true_eq_false, Ins.v, Ins.row, hlm])
    all_goals
      refine Run.rounds (fun (x : Nat) => ⟨[(20, .int .i64 x), (19, .int .i64 bl.length), (4, .isl BR), (3, .isl BR)], [], 1⟩) (fun x => x ≤ bl.length) (fun x => bl.length - x) 0 (by simp -implicitDefEqProofs only [go_sem, Nat.reduceEqDiff, Nat.reduceAdd, Nat.reduceMul, Nat.reduceLeDiff, Nat.reduceLT, Nat.reduceBEq, Int.reduceLT, Int.toNat_natCast, Int.cast_ofNat_Int, Int.natCast_zero, reduceCtorEq, reduceIte, and_self, not_false_eq_true, not_true_eq_false, Ins.v, Ins.row]) (by omega) ?_
      intro k hk ih
      have hz : ((k + 1 : Nat) : Int) = (k : Int) + 1 := by omega
      refine Run.unf scriptinglaw35_FlowBlocks_l0_eq (Run.go 100 ?_)
      by_cases c : (k : Int) < bl.length
      rotate_left
      · simp -implicitDefEqProofs only [go_sem, Nat.reduceEqDiff, Nat.reduceAdd, Nat.reduceMul, Nat.reduceLeDiff, Nat.reduceLT, Nat.reduceBEq, Int.reduceLT, Int.toNat_natCast, Int.cast_ofNat_Int, Int.natCast_zero, reduceCtorEq, reduceIte, and_self, not_false_eq_true, not_true_eq_false, Ins.v, Ins.row, c]
        refine CallS.pureF awake_pure (by simp -implicitDefEqProofs only [go_sem, Nat.reduceEqDiff, Nat.reduceAdd, Nat.reduceMul, Nat.reduceLeDiff, Nat.reduceLT, Nat.reduceBEq, Int.reduceLT, Int.toNat_natCast, Int.cast_ofNat_Int, Int.natCast_zero, reduceCtorEq, reduceIte, and_self, not_false_eq_true, not_true_eq_false, Ins.v, Ins.row]) ?_
        simp -implicitDefEqProofs only [go_sem, Nat.reduceEqDiff, Nat.reduceAdd, Nat.reduceMul, Nat.reduceLeDiff, Nat.reduceLT, Nat.reduceBEq, Int.reduceLT, Int.toNat_natCast, Int.cast_ofNat_Int, Int.natCast_zero, reduceCtorEq, reduceIte, and_self, not_false_eq_true, not_true_eq_false, Ins.v, Ins.row]
      obtain ⟨b, hb⟩ : ∃ b, bl[k]? = some b := ⟨bl[k]'(by omega), by simp⟩
      have hr := hrm k b hb
      have hrN : rowN p.code b = [.int .i64 b.1, .int .i64 b.2, .isl (((nextL p.code (b.2 - 1)).map (numB p.code)).map zrw)] := rfl
      rw [hrN] at hr
      have hi := ints_refl ((nextL p.code (b.2 - 1)).map (numB p.code)) (by have := nextL_len2 p.code (b.2 - 1); simp; omega)
      have hsi := subZ ((nextL p.code (b.2 - 1)).map (numB p.code))
      generalize ((nextL p.code (b.2 - 1)).map (numB p.code)).map zrw = ml at *
      have k0 : ((0 : Int) ≤ (k : Int)) = True := eq_true (by omega)
      have k1 : ((k : Int) < (bl.length : Int)) = True := eq_true c
      have k2 : (k < bl.length) = True := eq_true (by omega)
      simp -implicitDefEqProofs only [go_sem, Nat.reduceEqDiff, Nat.reduceAdd, Nat.reduceMul, Nat.reduceLeDiff, Nat.reduceLT, Nat.reduceBEq, Int.reduceLT, Int.toNat_natCast, Int.cast_ofNat_Int, Int.natCast_zero, reduceCtorEq, reduceIte, and_self, not_false_eq_true, not_true_eq_false, Ins.v, Ins.row, c, hlm, hr, hzm, k0, k1, k2, Option.some.injEq, forall_eq']
      refine CallS.pure hi (by simp -implicitDefEqProofs only [go_sem, Nat.reduceEqDiff, Nat.reduceAdd, Nat.reduceMul, Nat.reduceLeDiff, Nat.reduceLT, Nat.reduceBEq, Int.reduceLT, Int.toNat_natCast, Int.cast_ofNat_Int, Int.natCast_zero, reduceCtorEq, reduceIte, and_self, not_false_eq_true, not_true_eq_false, Ins.v, Ins.row, hsi]) ?_
      simp -implicitDefEqProofs only [go_sem, Nat.reduceEqDiff, Nat.reduceAdd, Nat.reduceMul, Nat.reduceLeDiff, Nat.reduceLT, Nat.reduceBEq, Int.reduceLT, Int.toNat_natCast, Int.cast_ofNat_Int, Int.natCast_zero, reduceCtorEq, reduceIte, and_self, not_false_eq_true, not_true_eq_false, Ins.v, Ins.row]
      exact ⟨by omega, ih _ (k + 1) (by omega) (by omega) (by simp only [hz]; simp -implicitDefEqProofs only [go_sem, Nat.reduceEqDiff, Nat.reduceAdd, Nat.reduceMul, Nat.reduceLeDiff, Nat.reduceLT, Nat.reduceBEq, Int.reduceLT, Int.toNat_natCast, Int.cast_ofNat_Int, Int.natCast_zero, reduceCtorEq, reduceIte, and_self, not_false_eq_true, not_true_eq_false, Ins.v, Ins.row])⟩
end Go.Proofs.YtccghnpcfkifjaaDoor
