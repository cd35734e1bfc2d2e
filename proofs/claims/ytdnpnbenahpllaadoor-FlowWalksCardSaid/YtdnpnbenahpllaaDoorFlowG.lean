/-
  The size of functions. No condition.
-/
import Derived.Test.YtdnpnbenahpllaaDoorCode
import Derived.Test.YtdnpnbenahpllaaDoorWk
import Derived.Test.YtdnpnbenahpllaaDoorTsub
import Derived.Test.YtdnpnbenahpllaaDoorPro
set_option linter.unusedVariables false
set_option linter.unusedSimpArgs false
set_option maxRecDepth 100000
set_option maxHeartbeats 0
namespace Go.Proofs.YtdnpnbenahpllaaDoor
open Go.Abs
attribute [local irreducible] CallS Run
-- EV: Ins.v, Ins.row

def largeB (p : Pro) : Bool := decide (20 < p.protos.length) || p.protos.any (fun q => decide (60 < q.ups.length)) || decide (80 < p.code.length)
structure Small (p : Pro) : Prop where
  code : p.code.length ≤ 80
  protos : p.protos.length ≤ 20
  ups : ∀ q ∈ p.protos, q.ups.length ≤ 60
theorem Small.of {p : Pro} (h : largeB p = false) : Small p := by
  unfold largeB at h
  simp only [Bool.or_eq_false_iff, decide_eq_false_iff_not] at h
  refine ⟨by omega, by omega, fun q hq => ?_⟩
  have := h.1.2
  rw [List.any_eq_false] at this
  have := this q hq
  simp at this
  omega

theorem large_pure (p : Pro) (hB : p.protos.length ≤ 9223372036854775807) : Pure Tryd.prog 6 [.agg p.row] (.bool (largeB p)) := by
  refine Pure.of 0 (CallS.enter scriptinglaw35_large_ok (Nat.le_of_ble_eq_true rfl) ?_)
  have hpr := p.row_eq
  have hlC : (p.code.map Ins.row).length = p.code.length := List.length_map ..
  have hlP : (p.protos.map Pro.row).length = p.protos.length := List.length_map ..
  have hrP : ∀ (k : Nat) (x : Pro), p.protos[k]? = some x → (p.protos.map Pro.row)[k]? = some x.row := fun k x h => by rw [List.getElem?_map, h]; rfl
  have hzP : rowsz (p.protos.map Pro.row) 11 = True := eq_true fun r hr => by obtain ⟨y, _, rfl⟩ := List.mem_map.1 hr; rw [Pro.row_eq]; rfl
  rw [hpr]
  generalize p.protos.map Pro.row = PR at *
  generalize p.code.map Ins.row = es at *
  refine Run.go 100 ?_
  by_cases h1 : 20 < p.protos.length
  · have e : largeB p = true := by simp [largeB, h1]
    have h1 : ((20 : Int) < (p.protos.length : Int)) = True := eq_true (by omega)
    rw [e]
    simp -implicitDefEqProofs only [go_sem, Ins.v, Ins.row, initSl, hlP, h1]
  have h1' : ((20 : Int) < (p.protos.length : Int)) = False := eq_false (by omega)
  simp -implicitDefEqProofs only [go_sem, Ins.v, Ins.row, initSl, hlP, h1']
  generalize hrow : [V.str p.name, V.int .i64 p.line, V.int .i64 p.params, V.bool p.vararg, V.int .i64 p.regs, V.isl es, V.isl (p.lines.map zline), V.isl p.consts, V.isl PR, V.isl (p.ups.map upRow), V.isl p.vars] = row
  have r8 : row[8]? = some (.isl PR) := by rw [← hrow]; rfl
  have r5 : row[5]? = some (.isl es) := by rw [← hrow]; rfl
  refine Run.rounds (fun (x : Nat) => ⟨[(11, .int .i64 x), (10, .int .i64 p.protos.length), (1, .ptr (6 * 10000 + 1) 0 0 0)], [((6 * 10000 + 1), 0, .rows 11 [row])], 1⟩)
    (fun x => x ≤ p.protos.length ∧ (p.protos.take x).any (fun q => decide (60 < q.ups.length)) = false) (fun x => p.protos.length - x) 0 (by simp -implicitDefEqProofs only [go_sem, Ins.v, Ins.row]) ⟨by omega, by simp⟩ ?_
  rintro k ⟨hk, ha⟩ ih
  have hz : ((k + 1 : Nat) : Int) = (k : Int) + 1 := by omega
  refine Run.unf scriptinglaw35_large_l0_eq (Run.go 100 ?_)
  by_cases c : (k : Int) < p.protos.length
  rotate_left
  · rw [List.take_of_length_le (by omega)] at ha
    have e : largeB p = decide (80 < p.code.length) := by unfold largeB; rw [ha]; simp [h1]
    rw [e]
    have e2 : ((80 : Int) < (p.code.length : Int)) = (80 < p.code.length) := by rw [eq_iff_iff]; omega
    simp -implicitDefEqProofs only [go_sem, Ins.v, Ins.row, c, r5, hlC, e2]
  obtain ⟨q, hq⟩ : ∃ q, p.protos[k]? = some q := ⟨p.protos[k]'(by omega), by simp⟩
  have hr := hrP k q hq
  rw [q.row_eq] at hr
  have k0 : ((0 : Int) ≤ (k : Int)) = True := eq_true (by omega)
  have k1 : ((k : Int) < (p.protos.length : Int)) = True := eq_true c
  have k2 : (k < p.protos.length) = True := eq_true (by omega)
  have hlU : (q.ups.map upRow).length = q.ups.length := List.length_map ..
  generalize q.ups.map upRow = UR at *
  by_cases d : 60 < q.ups.length
  · have e : largeB p = true := by
      unfold largeB
      have : p.protos.any (fun q => decide (60 < q.ups.length)) = true := List.any_eq_true.2 ⟨q, List.mem_of_getElem? hq, by simp [d]⟩
      rw [this]; simp
    rw [e]
    have d' : ((60 : Int) < (q.ups.length : Int)) = True := eq_true (by omega)
    simp -implicitDefEqProofs only [go_sem, Ins.v, Ins.row, r8, hlP, hr, hzP, hlU, k0, k1, k2, d', Option.some.injEq, forall_eq']
  · have d' : ((60 : Int) < (q.ups.length : Int)) = False := eq_false (by omega)
    simp -implicitDefEqProofs only [go_sem, Ins.v, Ins.row, r8, hlP, hr, hzP, hlU, k0, k1, k2, d', Option.some.injEq, forall_eq']
    refine ⟨by omega, ?_⟩
    exact ih _ (k + 1) ⟨by omega, by rw [List.take_add_one, hq, Option.toList_some, List.any_append, ha]; simp; omega⟩ (by omega) (by simp only [hz]; simp -implicitDefEqProofs only [go_sem, Ins.v, Ins.row])
end Go.Proofs.YtdnpnbenahpllaaDoor
