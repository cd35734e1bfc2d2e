/-
  What Put answers; what Get and Load answer where the checksum does not fit. No condition.
-/
import Derived.Test.YtjaamflmnefnkaaGreatDoorDmQ
import Derived.Test.YtjaamflmnefnkaaGreatDoorFnM9
set_option linter.unusedVariables false
set_option linter.unusedSimpArgs false
set_option maxRecDepth 100000
set_option maxHeartbeats 0
namespace Go.Proofs.YtjaamflmnefnkaaGreatDoor
open Go Go.Abs
attribute [local irreducible] CallS Run
-- EV: dW, dB

theorem byR_frz (l : List Int) (d : Nat) (h : Heap) : (byR l).map (fun r => r.map (frz d h)) = byR l := by
  have e : ∀ a : Int, frz d h (.int .u8 a) = .int .u8 a := fun a => by cases d <;> rfl
  simp [byR, e]
def putV (p : Fn) : V := if chkE p = 0 then .tup [.isl (byR (fileZ p)), .int .i64 0] else .tup [.isl [], .int .i64 (chkE p)]
theorem put_call (p : Fn) (hp : p.bd) (hd : p.depth ≤ 1000000) (hl : (encF p).length ≤ 10000000000) : Pure Tryz.prog 6 [.agg p.row] (putV p) := by
  have hc := pcheck_pure p hp hd
  have hps := Fn.row_sub lost p
  obtain ⟨g1, g2⟩ := fn_row11 p
  have hf := fun s n => puts_of (func_call p 2 s n [83, 67, 82, 66, 1] (by simp; omega))
  have hsum := sum_pure (bodyZ p) (by unfold bodyZ; have : 10000000010 ≤ reachBytes := by decide
                                      simp; omega)
  generalize p.row = pr at *
  refine Pure.of 1 (CallS.enterK dump_Put_ok (Nat.le_of_ble_eq_true rfl) fun Q hQ => Run.go 100 ?_)
  simp -implicitDefEqProofs only [go_sem, dW, dB, initSl, g1, g2]
  refine CallS.pureF hc (by simp -implicitDefEqProofs only [go_sem, dW, dB, hps]) ?_
  unfold putV at hQ
  by_cases c : chkE p = 0
  · rw [if_pos c] at hQ
    simp -implicitDefEqProofs only [go_sem, dW, dB, c, g1, g2]
    refine CallS.at [0, 1] [2] (hf _ _) rfl rfl ?_
    rintro r h' n1 hn1 ⟨rfl, s1, L, e1, k1, rfl⟩
    have e2 : L = bodyZ p := e1
    rw [← e2] at hsum
    have hR := byR_len L
    have hS := byR_sz L
    have hT := byR_take L
    have hB := fun h => byR_frz L 0 h
    have hB2 := fun h => byR_frz L 2 h
    have k2 : L.length ≤ 10000000005 := by rw [k1]; simp; omega
    have hW : byR (fileZ p) = byR L ++ [[.int .u8 (IntKind.u8.wrap (sumZ L))], [.int .u8 (IntKind.u8.wrap (shZ false .u32 (sumZ L) 8))], [.int .u8 (IntKind.u8.wrap (shZ false .u32 (sumZ L) 16))], [.int .u8 (IntKind.u8.wrap (shZ false .u32 (sumZ L) 24))]] := by
      unfold fileZ
      rw [← e2, byR_app]
      rfl
    rw [hW] at hQ
    rw [show (L.map fun z => [V.int .u8 z]) = byR L from rfl] at hsum
    unfold wrH
    generalize byR L = BR at *
    generalize sumZ L = z at *
    generalize L.length = m at *
    have f1 : (m ≤ m) = True := eq_true (Nat.le_refl _)
    simp -implicitDefEqProofs only [go_sem, dW, dB, hR, hS, hT, f1]
    refine CallS.view hsum 3 (by simp -implicitDefEqProofs only [go_sem, dW, dB, hR, hT, hB2, List.drop_zero]) rfl ?_
    simp -implicitDefEqProofs only [go_sem, dW, dB, hR, hS, hT, f1]
    subst hQ
    refine ⟨by omega, .is ?_⟩
    have f2 : (m + 4 ≤ m + 4) = True := eq_true (Nat.le_refl _)
    have hT2 : ∀ a b c d : List V, (BR ++ [a, b, c, d]).take (m + 4) = BR ++ [a, b, c, d] := fun a b c d => List.take_of_length_le (by simp [hR])
    simp -implicitDefEqProofs only [go_sem, dW, dB, hR, hT2, hB, List.drop_zero, f2, List.map_append]
  · rw [if_neg c] at hQ
    simp -implicitDefEqProofs only [go_sem, dW, dB, c]
    subst hQ
    exact .is rfl
end Go.Proofs.YtjaamflmnefnkaaGreatDoor
