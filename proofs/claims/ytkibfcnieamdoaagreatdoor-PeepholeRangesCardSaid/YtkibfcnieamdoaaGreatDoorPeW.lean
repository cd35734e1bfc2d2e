/-
  The law's own examples hold. No condition.
-/
import Derived.Test.YtkibfcnieamdoaaGreatDoorPeA
set_option linter.unusedVariables false
set_option linter.unusedSimpArgs false
set_option maxRecDepth 1000000
set_option maxHeartbeats 0
namespace Go.Proofs.YtkibfcnieamdoaaGreatDoor
open Go.Abs
attribute [local irreducible] CallS Run
-- EV: stR, reR, i5, codR, zeroR
theorem code_call (l : List (List V)) (b st k : Nat) (hk : k = l.length) (rest : Heap) (hap : ∀ e ∈ rest, e.1 ≠ b ∧ e.1 / 10000 ≠ 15) (hb : b / 10000 ≠ 15) (n : Nat) :
    CallS Tryz.prog 15 [.sl b st 0 k] ((b, st, .rows 5 l) :: rest) n fun r h' _ => r = .agg (codR l) ∧ h' = rest := by
  subst hk
  refine CallS.enterK scriptinglaw41_code_ok (Nat.le_of_ble_eq_true rfl) fun Q hQ => Run.go 100 ?_
  have hd : Heap.del rest (15 * 10000 + 2) = rest := Apart.del fun e he h2 => (hap e he).2 (by rw [h2])
  have hb2 : (b = 15 * 10000 + 2) = False := eq_false fun h2 => hb (by rw [h2])
  simp only [Nat.reduceMul, Nat.reduceAdd] at hd hb2
  simp -implicitDefEqProofs only [go_sem, stR, reR, i5, codR, zeroR, initSl, hd, hb2]
  subst hQ
  exact Post.to (r2 := .agg (codR l)) (h2 := rest) ⟨rfl, rfl⟩ (Wk.trans (b := ⟨[(0, .agg [.str [], .int .i64 0, .int .i64 0, .bool false, .int .i64 2, .isl l, .nils, .nils, .nils, .nils, .nils])], rest, n + 1⟩)
    (.freeze (b := b) (st := st) (sz := 5) (rs := l) (by simp) ⟨Frz.agg ⟨.of (.refl _), .of (.refl _), .of (.refl _), .of (.refl _), .of (.refl _), Frz.all rfl, .of (.refl _), .of (.refl _), .of (.refl _), .of (.refl _), .of (.refl _), trivial⟩, trivial⟩ (FrzH.of fun e he => ⟨by simp [he], (hap e he).1⟩))
    (.turn id ⟨SameV.agg ⟨.refl _, .refl _, .refl _, .refl _, .refl _, .refl _, .nilI, .nilI, .nilI, .nilI, .nilI, trivial⟩, trivial⟩ (.of fun e he => ⟨e, he, rfl, rfl, .refl _⟩)))
theorem awake_pure : Pure Tryz.prog 6 [] (.bool true) := by
  refine Pure.of 0 (CallS.enter scriptinglaw41_awake_ok (Nat.le_of_ble_eq_true rfl) (Run.go 100 ?_))
  simp -implicitDefEqProofs only [go_sem, stR, reR, i5, codR, zeroR, initSl]
  refine (code_call _ _ _ 3 ?_ _ ?_ ?_ _).mono ?_
  · rfl
  · simp
  · decide
  rintro r h' n' ⟨rfl, rfl⟩
  simp -implicitDefEqProofs only [go_sem, stR, reR, i5, codR, zeroR]
  refine CallS.pureF jumps_a rfl ?_
  simp -implicitDefEqProofs only [go_sem, stR, reR, i5, codR, zeroR]
  refine (code_call _ _ _ 3 ?_ _ ?_ ?_ _).mono ?_
  · rfl
  · simp
  · decide
  rintro r h' n' ⟨rfl, rfl⟩
  simp -implicitDefEqProofs only [go_sem, stR, reR, i5, codR, zeroR]
  refine CallS.pureF moves_bP rfl ?_
  simp -implicitDefEqProofs only [go_sem, stR, reR, i5, codR, zeroR]
  refine (code_call _ _ _ 3 ?_ _ ?_ ?_ _).mono ?_
  · rfl
  · simp
  · decide
  rintro r h' n' ⟨rfl, rfl⟩
  simp -implicitDefEqProofs only [go_sem, stR, reR, i5, codR, zeroR]
  refine CallS.pureF dead_cP rfl ?_
  simp -implicitDefEqProofs only [go_sem, stR, reR, i5, codR, zeroR]
  refine (code_call _ _ _ 3 ?_ _ ?_ ?_ _).mono ?_
  · rfl
  · simp
  · decide
  rintro r h' n' ⟨rfl, rfl⟩
  simp -implicitDefEqProofs only [go_sem, stR, reR, i5, codR, zeroR]
  refine CallS.pureF proto_c rfl ?_
  simp -implicitDefEqProofs only [go_sem, stR, reR, i5, codR, zeroR]
  refine CallS.view proto_z 1 rfl rfl ?_
  simp -implicitDefEqProofs only [go_sem, stR, reR, i5, codR, zeroR]
  done
end Go.Proofs.YtkibfcnieamdoaaGreatDoor
