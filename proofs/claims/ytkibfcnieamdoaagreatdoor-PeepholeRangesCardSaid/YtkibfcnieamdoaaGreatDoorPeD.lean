/-
  The change of peephole.Dead. No condition.
-/
import Derived.Test.YtkibfcnieamdoaaGreatDoorPeR
import Derived.Test.YtkibfcnieamdoaaGreatDoorReachP
set_option linter.unusedVariables false
set_option linter.unusedSimpArgs false
set_option maxRecDepth 100000
set_option maxHeartbeats 0
namespace Go.Proofs.YtkibfcnieamdoaaGreatDoor
open Go.Abs
attribute [local irreducible] CallS Run
theorem reachF_pure (p : Fn) (hc : p.code.length ≤ 10000) : Pure Tryz.prog 19 [.agg p.row] (.isl ((reachL p.code).map brw)) := by
  have h := Fn.row_sub lost p
  rw [Fn.row_eq] at h ⊢
  refine reach_pure p.code hc _ _ _ _ _ _ _ _ _ _ ?_
  simp only [List.map_cons, List.map_nil, List.cons.injEq, and_true] at h ⊢
  simp_all
noncomputable def deadF (p : Fn) : Fn := removeF (fun k => !reachB p.code k) p
theorem dead_pure (p : Fn) (hok : RemOK p) (hc : p.code.length ≤ 10000) : Pure Tryz.prog 18 [.agg p.row] (.agg (deadF p).row) := by
  have hre := reachF_pure p hc
  have hrc := remove_call p hok (fun k => !reachB p.code k) 21
  obtain ⟨h1, h2⟩ := fn_row11 p
  have hsub := Fn.row_sub lost p
  have hB : ∀ i, i < p.code.length → ((reachL p.code).map brw)[i]? = some [.bool (reachB p.code i)] := fun i hi => brw_at (reachL_at hi)
  have hBl : ((reachL p.code).map brw).length = p.code.length := by simp [reachL_len]
  have hBz : rowsz ((reachL p.code).map brw) 1 = True := eq_true (rowsz_of brw 1 (fun _ => rfl) _)
  refine Pure.of 0 (CallS.enter peephole_Dead_1_ok (Nat.le_of_ble_eq_true rfl) (Run.go 100 ?_))
  unfold deadF
  generalize hq : (removeF (fun k => !reachB p.code k) p).row = out at *
  generalize p.row = pr at *
  generalize (reachL p.code).map brw = B at *
  simp -implicitDefEqProofs only [go_sem, initSl, h1, h2]
  refine CallS.pureF hre (by simp -implicitDefEqProofs only [go_sem, hsub]) ?_
  simp -implicitDefEqProofs only [go_sem, h1, h2, Nat.reduceDiv]
  refine (hrc _ _ rfl (fun b hb e he => ?_) (fun i hi n => ?_) _).wk ?_
  · simp only [List.mem_cons, List.not_mem_nil, or_false] at he
    intro e2
    rcases he with rfl | rfl | rfl <;> (dsimp only at e2; omega)
  · refine CallS.enterK peephole_Dead_1_1_ok (Nat.le_of_ble_eq_true rfl) fun Q hQ => Run.go 100 ?_
    have k0 : ((0 : Int) ≤ (i : Int)) = True := eq_true (by omega)
    have k1 : (i < p.code.length) = True := eq_true hi
    have hBi := hB i hi
    simp -implicitDefEqProofs only [go_sem, initSl, hBl, hBz, k0, k1, hBi, Option.some.injEq, forall_eq']
    subst hQ
    exact ⟨by omega, Post.to ⟨rfl, rfl⟩ (.refl _)⟩
  · rintro r h' n' ⟨rfl, rfl⟩
    simp -implicitDefEqProofs only [go_sem, Nat.reduceDiv]
    refine ⟨.agg out, _, n', .refl _, ?_⟩
    have o1 : out.length = 11 := by rw [← hq]; exact (fn_row11 _).1
    have o2 : out.take 11 = out := by rw [← hq]; exact (fn_row11 _).2
    have o3 : out.map (V.sub lost) = out := by rw [← hq]; exact Fn.row_sub lost _
    simp -implicitDefEqProofs only [go_sem, o1, o2, o3, Nat.reduceDiv]
    rw [← hq]
    exact Fn.row_sub lost _
end Go.Proofs.YtkibfcnieamdoaaGreatDoor
