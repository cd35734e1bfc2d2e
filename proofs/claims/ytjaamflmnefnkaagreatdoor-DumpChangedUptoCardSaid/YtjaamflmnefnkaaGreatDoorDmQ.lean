/-
  What Get and Load answer where the checksum does not fit. No condition.
-/
import Derived.Test.YtjaamflmnefnkaaGreatDoorDmC
set_option linter.unusedVariables false
set_option linter.unusedSimpArgs false
set_option maxRecDepth 100000
set_option maxHeartbeats 0
namespace Go.Proofs.YtjaamflmnefnkaaGreatDoor
open Go Go.Abs
attribute [local irreducible] CallS Run

theorem byR_sub (l : List Int) : (byR l).map (fun r => r.map (V.sub lost)) = byR l := by simp [byR, V.sub]
def zeroF : V := .agg [.str [], .int .i64 0, .int .i64 0, .bool false, .int .i64 0, .isl [], .isl [], .isl [], .isl [], .isl [], .isl []]
theorem get_sum (M : List Int) (a b c d : Int) (h5 : 5 ≤ M.length) (hl : M.length ≤ 10000000000) (hne : V4 a b c d ≠ sumZ M) : Pure Tryz.prog 7 [.isl (byR (M ++ [a, b, c, d]))] (.tup [zeroF, .int .i64 20]) := by
  have hs := sum_pure M (by have : 10000000000 ≤ reachBytes := by decide
                            omega)
  have hR : (byR (M ++ [a, b, c, d])).length = M.length + 4 := by rw [byR_len]; simp
  have hS := byR_sz (M ++ [a, b, c, d])
  have ha : (byR (M ++ [a, b, c, d]))[M.length]? = some [.int .u8 a] := by simp [byR]
  have hb : (byR (M ++ [a, b, c, d]))[M.length + 1]? = some [.int .u8 b] := by simp [byR]
  have hc : (byR (M ++ [a, b, c, d]))[M.length + 2]? = some [.int .u8 c] := by simp [byR]
  have hd : (byR (M ++ [a, b, c, d]))[M.length + 3]? = some [.int .u8 d] := by simp [byR]
  have ht : (byR (M ++ [a, b, c, d])).take M.length = byR M := by simp [byR]
  generalize byR (M ++ [a, b, c, d]) = BR at *
  generalize M.length = L at *
  refine Pure.of 0 (CallS.enterK dump_Get_ok (Nat.le_of_ble_eq_true rfl) fun Q hQ => Run.go 100 ?_)
  have e0 : (L : Int) + 4 - 4 = (L : Int) := by omega
  have e1 : ((L + 4 : Nat) : Int) = (L : Int) + 4 := by omega
  have c5 : ((L : Int) < 5) = False := eq_false (by omega)
  have t1 : ((L : Int) + 1).toNat = L + 1 := by omega
  have t2 : ((L : Int) + 2).toNat = L + 2 := by omega
  have t3 : ((L : Int) + 3).toNat = L + 3 := by omega
  have q0 : ((0 : Int) ≤ (L : Int)) = True := eq_true (by omega)
  have q1 : ((L : Int) < (L : Int) + 4) = True := eq_true (by omega)
  have u0 : (L < L + 4) = True := eq_true (by omega)
  have u1 : (L + 1 < L + 4) = True := eq_true (by omega)
  have u2 : (L + 2 < L + 4) = True := eq_true (by omega)
  have u3 : (L + 3 < L + 4) = True := eq_true (by omega)
  have v1 : ((L : Int) + 1 < (L : Int) + 4) = True := eq_true (by omega)
  have v2 : ((L : Int) + 2 < (L : Int) + 4) = True := eq_true (by omega)
  have v3 : ((L : Int) + 3 < (L : Int) + 4) = True := eq_true (by omega)
  have p1 : ((0 : Int) ≤ (L : Int) + 1) = True := eq_true (by omega)
  have p2 : ((0 : Int) ≤ (L : Int) + 2) = True := eq_true (by omega)
  have p3 : ((0 : Int) ≤ (L : Int) + 3) = True := eq_true (by omega)
  simp -implicitDefEqProofs only [go_sem, initSl, hR, hS, e0, e1, c5, t1, t2, t3, q0, q1, u0, u1, u2, u3, v1, v2, v3, p1, p2, p3, ha, hb, hc, hd, Option.some.injEq, forall_eq', Int.toNat_natCast]
  have hsub : ((L : Int) - 0).toNat = L := by omega
  rw [hsub, ht]
  refine ⟨by omega, by omega, by omega, by omega, by omega, CallS.pureF hs (by simp -implicitDefEqProofs only [go_sem, byR_sub]) ?_⟩
  have hne' := eq_false hne
  unfold V4 at hne'
  simp -implicitDefEqProofs only [go_sem, hne']
  subst hQ
  exact .is rfl
theorem load_sum (M : List Int) (a b c d : Int) (h5 : 5 ≤ M.length) (hl : M.length ≤ 10000000000) (hne : V4 a b c d ≠ sumZ M) : Pure Tryz.prog 8 [.isl (byR (M ++ [a, b, c, d]))] (.tup [zeroF, .int .i64 20]) := by
  have hg := get_sum M a b c d h5 hl hne
  generalize hB : byR (M ++ [a, b, c, d]) = BR at *
  refine Pure.of 0 (CallS.enterK dump_Load_ok (Nat.le_of_ble_eq_true rfl) fun Q hQ => Run.go 100 ?_)
  simp -implicitDefEqProofs only [go_sem, initSl]
  refine CallS.pureF hg (by rw [← hB]; simp -implicitDefEqProofs only [go_sem, byR_sub]) ?_
  simp -implicitDefEqProofs only [go_sem, zeroF]
  subst hQ
  exact .is rfl
end Go.Proofs.YtjaamflmnefnkaaGreatDoor
