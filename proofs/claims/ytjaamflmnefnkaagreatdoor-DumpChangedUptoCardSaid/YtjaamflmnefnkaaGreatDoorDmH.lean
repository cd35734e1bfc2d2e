/-
  DumpChanged, on arguments of a bounded bulk. No condition.
-/
import Derived.Test.YtjaamflmnefnkaaGreatDoorDmP
import Derived.Test.YtjaamflmnefnkaaGreatDoorDmA
import Derived.Test.YtjaamflmnefnkaaGreatDoorDmL
import Derived.Test.YtjaamflmnefnkaaGreatDoorDmB
set_option linter.unusedVariables false
set_option linter.unusedSimpArgs false
set_option maxRecDepth 100000
set_option maxHeartbeats 0
namespace Go.Proofs.YtjaamflmnefnkaaGreatDoor
open Go Go.Abs
attribute [local irreducible] CallS Run

theorem changed_of (p : Fn) (hp : p.bd) (hb : bkL p.row ≤ 1048576) (at' by' : Int) (hby : isB by') : Pure Tryz.prog 3 [.agg p.row, .int .i64 at', .int .u8 by'] (.bool true) := by
  have hE := each_bk p
  have hF := enc_len p
  obtain ⟨lg, hlg⟩ := large_pure p hp (by omega)
  have hput := put_call p hp (Nat.le_trans (Fn.depth_each p) (by omega)) (by omega)
  have aw := awake_pure
  have hps := Fn.row_sub lost p
  obtain ⟨g1, g2⟩ := fn_row11 p
  generalize p.row = pr at *
  refine Pure.of 0 (CallS.enter scriptinglaw40_DumpChanged_ok (Nat.le_of_ble_eq_true rfl) (Run.go 100 ?_))
  simp -implicitDefEqProofs only [go_sem, initSl, g1, g2]
  refine CallS.pureF hlg (by simp -implicitDefEqProofs only [go_sem, hps]) ?_
  cases lg
  rotate_left
  · simp -implicitDefEqProofs only [go_sem]
    refine CallS.pureF aw rfl ?_
    simp -implicitDefEqProofs only [go_sem]
  by_cases c0 : by' = 0
  · simp -implicitDefEqProofs only [go_sem, c0]
    refine CallS.pureF aw rfl ?_
    simp -implicitDefEqProofs only [go_sem]
  simp -implicitDefEqProofs only [go_sem, c0, g1, g2]
  refine CallS.pureF hput (by simp -implicitDefEqProofs only [go_sem, hps]) ?_
  unfold putV
  by_cases c1 : chkE p = 0
  rotate_left
  · rw [if_neg c1]
    simp -implicitDefEqProofs only [go_sem, c1]
    refine CallS.pureF aw rfl ?_
    simp -implicitDefEqProofs only [go_sem]
  rw [if_pos c1]
  have hR := byR_len (fileZ p)
  have hS := byR_sz (fileZ p)
  have hT := byR_take (fileZ p)
  have hU := byR_sub (fileZ p)
  generalize hBR : byR (fileZ p) = BR at *
  generalize hL : (fileZ p).length = L at *
  by_cases c2 : at' < 0
  · simp -implicitDefEqProofs only [go_sem, c2, hR, hU]
    refine CallS.pureF aw rfl ?_
    simp -implicitDefEqProofs only [go_sem]
  by_cases c3 : at' ≥ (L : Int)
  · simp -implicitDefEqProofs only [go_sem, c2, c3, hR, hU]
    refine CallS.pureF aw rfl ?_
    simp -implicitDefEqProofs only [go_sem]
  obtain ⟨k, rfl⟩ := Int.eq_ofNat_of_zero_le (show 0 ≤ at' by omega)
  have hkL : k < (fileZ p).length := by omega
  have hx : isB (fileZ p)[k] := (bodyZ_B p).app le4_B _ (List.getElem_mem hkL)
  obtain ⟨y1, y2⟩ := xor8 hx hby c0
  obtain ⟨M, a, b, c, d, eM, lM, hne⟩ := changed (bodyZ_B p) hkL y2 y1
  have hM5 : 5 ≤ M.length := by rw [lM]; unfold bodyZ; simp
  have hM6 : M.length ≤ 10000000000 := by rw [lM]; unfold bodyZ; simp; omega
  have hget := get_sum M a b c d hM5 hM6 hne
  have hload := load_sum M a b c d hM5 hM6 hne
  have hrow : BR[k]? = some [.int .u8 (fileZ p)[k]] := by rw [← hBR]; unfold byR; rw [List.getElem?_map, List.getElem?_eq_getElem hkL]; rfl
  have hset : BR.set k [.int .u8 (bitZ .xor .u8 (fileZ p)[k] by')] = byR (M ++ [a, b, c, d]) := by
    rw [← eM, ← hBR]
    unfold byR
    rw [List.map_set]
    rfl
  have hnL : (M ++ [a, b, c, d]).length = L := by rw [← eM, List.length_set]; exact hL
  have hR2 := byR_len (M ++ [a, b, c, d])
  rw [hnL] at hR2
  have hT2 := byR_take (M ++ [a, b, c, d])
  rw [hnL] at hT2
  have hF2 := byR_frz (M ++ [a, b, c, d])
  generalize byR (M ++ [a, b, c, d]) = NR at *
  generalize (fileZ p)[k] = x at *
  have hL2 : L = M.length + 4 := by rw [← hnL]; simp
  have k0 : ((0 : Int) ≤ (k : Int)) = True := eq_true (by omega)
  have k1 : ((k : Int) < (L : Int)) = True := eq_true (by omega)
  have k2 : (k < L) = True := eq_true (by omega)
  simp -implicitDefEqProofs only [go_sem, c2, c3, hR, hU, hS, hT, k0, k1, k2, hrow, hset, Option.some.injEq, forall_eq', Int.toNat_natCast]
  refine ⟨by omega, CallS.view hget 2 (by simp -implicitDefEqProofs only [go_sem, hR2, hT2, hF2, List.drop_zero]) rfl ?_⟩
  simp -implicitDefEqProofs only [go_sem, hR2, hT2, zeroF]
  refine CallS.view hload 2 (by simp -implicitDefEqProofs only [go_sem, hR2, hT2, hF2, List.drop_zero]) rfl ?_
  simp -implicitDefEqProofs only [go_sem, hR2, hT2, zeroF]
  refine CallS.pureF aw rfl ?_
  simp -implicitDefEqProofs only [go_sem]
theorem dumpChanged_args (n0 : List V) (w0 : Typed Tryz.prog 29 n0) (n1 : Int) (w1 : (Lit.int .i64 n1).wf = true) (n2 : Int) (w2 : (Lit.int .u8 n2).wf = true) (hsm : bkL [.agg n0, .int .i64 n1, .int .u8 n2] ≤ 1048576) : Pure Tryz.prog 3 [.agg n0, .int .i64 n1, .int .u8 n2] (.bool true) := by
  obtain ⟨p, rfl, hp, hb⟩ := fn_argsB w0
  simp only [bkL, bkV] at hsm
  refine changed_of p hb (by omega) n1 n2 ?_
  have h : IntKind.u8.min ≤ n2 ∧ n2 ≤ IntKind.u8.max := by simpa [Lit.wf] using w2
  rw [show IntKind.u8.min = 0 from rfl, show IntKind.u8.max = 255 from rfl] at h
  exact ⟨h.1, by omega⟩
end Go.Proofs.YtjaamflmnefnkaaGreatDoor
