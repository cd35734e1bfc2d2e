/-
  Well-formed constants. No condition.
-/
import Derived.Test.YtkjcokmbjdafnaaDoorFnM2
set_option linter.unusedVariables false
set_option linter.unusedSimpArgs false
set_option maxRecDepth 100000
set_option maxHeartbeats 0
namespace Go.Proofs.YtkjcokmbjdafnaaDoor
open Go.Abs
attribute [local irreducible] CallS Run RndS
def validK (v : Kst) : Bool :=
  if v.kind = 0 then decide (v.p = 0) && (decide (v.q = 0) && (decide (v.str = []) && decide (v.ref = 0)))
  else if v.kind = 1 then (decide (v.ref = 0) || decide (v.ref = 1)) && (decide (v.p = 0) && (decide (v.q = 0) && decide (v.str = [])))
  else if v.kind = 2 then numOK v.p v.q && (decide (v.str = []) && decide (v.ref = 0))
  else decide (v.kind = 3) && (decide (v.str.length ≤ 4096) && (decide (v.p = 0) && (decide (v.q = 0) && decide (v.ref = 0))))
theorem valid_pure (v : Kst) (hk : v.kind ≤ 3) : Pure Tryd.prog 52 [.agg v.row] (.bool (validK v)) := by
  obtain ⟨kind, p, q, str, ref⟩ := v
  simp only at hk
  have hn := valid_num p q
  refine Pure.of 0 (CallS.enter value_Valid_ok (Nat.le_of_ble_eq_true rfl) (Run.go 100 ?_))
  by_cases k0 : kind = 0
  · subst k0
    simp -implicitDefEqProofs only [go_sem, initSl, Kst.row, validK]
    simp only [Bool.and_assoc]
  by_cases k1 : kind = 1
  · subst k1
    simp -implicitDefEqProofs only [go_sem, initSl, Kst.row, validK]
    by_cases r0 : ref = 0 <;> by_cases r1 : ref = 1 <;> simp [r0, r1, Bool.and_assoc]
  by_cases k2 : kind = 2
  · subst k2
    simp -implicitDefEqProofs only [go_sem, initSl, Kst.row, validK]
    refine CallS.pureF hn (by simp -implicitDefEqProofs only [go_sem]) ?_
    simp -implicitDefEqProofs only [go_sem]
    cases numOK p q <;> simp [Bool.and_assoc]
  by_cases k3 : kind = 3
  · subst k3
    simp -implicitDefEqProofs only [go_sem, initSl, Kst.row, validK]
    by_cases r0 : (str.length : Int) ≤ 4096
    · have r1 : str.length ≤ 4096 := by omega
      simp [r0, r1, Bool.and_assoc]
    · have r1 : ¬ str.length ≤ 4096 := by omega
      simp [r0, r1]
  have e4 : (kind = 4) = False := eq_false (by omega)
  have e5 : (kind = 5) = False := eq_false (by omega)
  have e6 : (kind = 6) = False := eq_false (by omega)
  have e7 : (kind = 7) = False := eq_false (by omega)
  have e8 : (kind = 8) = False := eq_false (by omega)
  simp -implicitDefEqProofs only [go_sem, initSl, Kst.row, validK, k0, k1, k2, k3, e4, e5, e6, e7, e8]
end Go.Proofs.YtkjcokmbjdafnaaDoor
