/-
  The limits of a function. No condition.
-/
import Derived.Test.YtkjcokmbjdafnaaDoorFnM3
set_option linter.unusedVariables false
set_option linter.unusedSimpArgs false
set_option maxRecDepth 100000
set_option maxHeartbeats 0
namespace Go.Proofs.YtkjcokmbjdafnaaDoor
open Go.Abs
attribute [local irreducible] CallS Run RndS
theorem long_call (s : List UInt8) (h : Heap) (n : Nat) : CallS Tryd.prog 44 [.str s] h n fun r h' n' => r = .bool (decide (40 < s.length)) ∧ h' = h := by
  refine CallS.enterK proto_limits_1_ok (Nat.le_of_ble_eq_true rfl) fun Q hQ => Run.go 100 ?_
  have e : ((40 : Int) < (s.length : Int)) = (40 < s.length) := propext (by omega)
  simp -implicitDefEqProofs only [go_sem, initSl, e]
  subst hQ
  exact .is ⟨rfl, rfl⟩
theorem long_up (u : Upv) (B : Blk) (n : Nat) : CallS Tryd.prog 46 [.agg (Upv.row u), .ptr (31 * 10000 + 3) 1 0 0] [((31 * 10000 + 3), 1, .rows 1 [[.fn 44 []]]), ((31 * 10000 + 1), 0, B)] n fun r h' n' => r = .bool (decide (40 < u.name.length)) ∧ h' = [((31 * 10000 + 3), 1, .rows 1 [[.fn 44 []]]), ((31 * 10000 + 1), 0, B)] := by
  refine CallS.enterK proto_limits_2_ok (Nat.le_of_ble_eq_true rfl) fun Q hQ => Run.go 100 ?_
  simp -implicitDefEqProofs only [go_sem, initSl, Upv.row]
  refine ⟨by kernel_rfl, ?_⟩
  refine (long_call _ _ _).mono ?_
  rintro r h' n' ⟨rfl, rfl⟩
  simp -implicitDefEqProofs only [go_sem]
  subst hQ
  exact .to (r2 := .bool _) (n2 := n') ⟨rfl, rfl⟩ (.turn id ⟨.refl _, trivial⟩ (.at 1 rfl rfl (.refl _) (.at 2 rfl rfl (.refl _) trivial)))
theorem long_vr (v : Vr) (B : Blk) (n : Nat) : CallS Tryd.prog 48 [.agg (Vr.row v), .ptr (31 * 10000 + 3) 1 0 0] [((31 * 10000 + 3), 1, .rows 1 [[.fn 44 []]]), ((31 * 10000 + 1), 0, B)] n fun r h' n' => r = .bool (decide (40 < v.name.length)) ∧ h' = [((31 * 10000 + 3), 1, .rows 1 [[.fn 44 []]]), ((31 * 10000 + 1), 0, B)] := by
  refine CallS.enterK proto_limits_3_ok (Nat.le_of_ble_eq_true rfl) fun Q hQ => Run.go 100 ?_
  simp -implicitDefEqProofs only [go_sem, initSl, Vr.row]
  refine ⟨by kernel_rfl, ?_⟩
  refine (long_call _ _ _).mono ?_
  rintro r h' n' ⟨rfl, rfl⟩
  simp -implicitDefEqProofs only [go_sem]
  subst hQ
  exact .to (r2 := .bool _) (n2 := n') ⟨rfl, rfl⟩ (.turn id ⟨.refl _, trivial⟩ (.at 1 rfl rfl (.refl _) (.at 2 rfl rfl (.refl _) trivial)))
def limE (p : Fn) : Int :=
  if p.code.length ≤ 16384 ∧ p.consts.length ≤ 4096 ∧ p.protos.length ≤ 1024 ∧ p.ups.length ≤ 60 ∧ p.vars.length ≤ 16384 ∧ p.regs ≤ 4096 ∧ p.name.length ≤ 4096 ∧ p.ups.any (fun u => decide (40 < u.name.length)) = false ∧ p.vars.any (fun v => decide (40 < v.name.length)) = false then 0 else 3
theorem limits_pure (p : Fn) (hp : p.bd) : Pure Tryd.prog 31 [.agg p.row] (.int .i64 (limE p)) := by
  obtain ⟨h1, h2⟩ := fn_row11 p
  have hb := hp.self
  rw [Fn.row_eq] at h1 h2 ⊢
  obtain ⟨name, line, params, vararg, regs, code, lines, consts, protos, ups, vars⟩ := p
  have k1 : (code.map Ins.row).length = code.length := List.length_map ..
  have k2 : (consts.map Kst.row).length = consts.length := List.length_map ..
  have k3 : (protos.map Fn.row).length = protos.length := List.length_map ..
  have k4 : (ups.map Upv.row).length = ups.length := List.length_map ..
  have k5 : (vars.map Vr.row).length = vars.length := List.length_map ..
  have hu : ups.length ≤ 17592186043904 := by have := hb.ups; simp only at this; omega
  have hv : vars.length ≤ 17592186043904 := by have := hb.vars; simp only at this; omega
  have cu := contains_up ups hu (fun u => decide (40 < u.name.length)) 46 [.ptr (31 * 10000 + 3) 1 0 0]
  have cv := contains_vr vars hv (fun u => decide (40 < u.name.length)) 48 [.ptr (31 * 10000 + 3) 1 0 0]
  generalize hl : limE _ = z
  simp only [limE] at hl
  simp only at *
  generalize code.map Ins.row = rcode at *
  generalize consts.map Kst.row = rconsts at *
  generalize protos.map Fn.row = rprotos at *
  generalize ups.map Upv.row = rups at *
  generalize vars.map Vr.row = rvars at *
  refine Pure.of 0 (CallS.enter proto_limits_ok (Nat.le_of_ble_eq_true rfl) (Run.go 100 ?_))
  by_cases l1 : code.length ≤ 16384
  case neg =>
    obtain rfl : z = 3 := hl ▸ if_neg (fun h => l1 h.1)
    have z1 : ((16384 : Int) < (code.length : Int)) = True := eq_true (by omega)
    simp -implicitDefEqProofs only [go_sem, initSl, h1, h2, k1, k2, k3, k4, k5, z1]
  have z1 : ((16384 : Int) < (code.length : Int)) = False := eq_false (by omega)
  by_cases l2 : consts.length ≤ 4096
  case neg =>
    obtain rfl : z = 3 := hl ▸ if_neg (fun h => l2 h.2.1)
    have z2 : ((4096 : Int) < (consts.length : Int)) = True := eq_true (by omega)
    simp -implicitDefEqProofs only [go_sem, initSl, h1, h2, k1, k2, k3, k4, k5, z1, z2]
  have z2 : ((4096 : Int) < (consts.length : Int)) = False := eq_false (by omega)
  by_cases l3 : protos.length ≤ 1024
  case neg =>
    obtain rfl : z = 3 := hl ▸ if_neg (fun h => l3 h.2.2.1)
    have z3 : ((1024 : Int) < (protos.length : Int)) = True := eq_true (by omega)
    simp -implicitDefEqProofs only [go_sem, initSl, h1, h2, k1, k2, k3, k4, k5, z1, z2, z3]
  have z3 : ((1024 : Int) < (protos.length : Int)) = False := eq_false (by omega)
  by_cases l4 : ups.length ≤ 60
  case neg =>
    obtain rfl : z = 3 := hl ▸ if_neg (fun h => l4 h.2.2.2.1)
    have z4 : ((60 : Int) < (ups.length : Int)) = True := eq_true (by omega)
    simp -implicitDefEqProofs only [go_sem, initSl, h1, h2, k1, k2, k3, k4, k5, z1, z2, z3, z4]
  have z4 : ((60 : Int) < (ups.length : Int)) = False := eq_false (by omega)
  by_cases l5 : vars.length ≤ 16384
  case neg =>
    obtain rfl : z = 3 := hl ▸ if_neg (fun h => l5 h.2.2.2.2.1)
    have z5 : ((16384 : Int) < (vars.length : Int)) = True := eq_true (by omega)
    simp -implicitDefEqProofs only [go_sem, initSl, h1, h2, k1, k2, k3, k4, k5, z1, z2, z3, z4, z5]
  have z5 : ((16384 : Int) < (vars.length : Int)) = False := eq_false (by omega)
  by_cases l6 : regs ≤ 4096
  case neg =>
    obtain rfl : z = 3 := hl ▸ if_neg (fun h => l6 h.2.2.2.2.2.1)
    have z6 : ((4096 : Int) < regs) = True := eq_true (by omega)
    simp -implicitDefEqProofs only [go_sem, initSl, h1, h2, k1, k2, k3, k4, k5, z1, z2, z3, z4, z5, z6]
  have z6 : ((4096 : Int) < regs) = False := eq_false (by omega)
  by_cases l7 : name.length ≤ 4096
  case neg =>
    obtain rfl : z = 3 := hl ▸ if_neg (fun h => l7 h.2.2.2.2.2.2.1)
    have z7 : ((4096 : Int) < (name.length : Int)) = True := eq_true (by omega)
    simp -implicitDefEqProofs only [go_sem, initSl, h1, h2, k1, k2, k3, k4, k5, z1, z2, z3, z4, z5, z6, z7]
  have z7 : ((4096 : Int) < (name.length : Int)) = False := eq_false (by omega)
  simp -implicitDefEqProofs only [go_sem, initSl, h1, h2, z1, z2, z3, z4, z5, z6, z7, k1, k2, k3, k4, k5]
  refine (cu _ (by kernel_rfl) (fun u _ m => long_up u _ m) _).mono ?_
  rintro r h' n' ⟨rfl, rfl⟩
  by_cases l8 : ups.any (fun u => decide (40 < u.name.length)) = true
  · obtain rfl : z = 3 := hl ▸ if_neg (fun h => by simp [l8] at h)
    simp -implicitDefEqProofs only [go_sem, l8]
  have l8 : ups.any (fun u => decide (40 < u.name.length)) = false := by simpa only [Bool.not_eq_true] using l8
  simp -implicitDefEqProofs only [go_sem, l8]
  refine (cv _ (by kernel_rfl) (fun u _ m => long_vr u _ m) _).mono ?_
  rintro r h' n' ⟨rfl, rfl⟩
  by_cases l9 : vars.any (fun u => decide (40 < u.name.length)) = true
  · obtain rfl : z = 3 := hl ▸ if_neg (fun h => by simp [l9] at h)
    simp -implicitDefEqProofs only [go_sem, l9]
  have l9 : vars.any (fun u => decide (40 < u.name.length)) = false := by simpa only [Bool.not_eq_true] using l9
  obtain rfl : z = 0 := hl ▸ if_pos ⟨l1, l2, l3, l4, l5, l6, l7, l8, l9⟩
  simp -implicitDefEqProofs only [go_sem, l9]
end Go.Proofs.YtkjcokmbjdafnaaDoor
