/-
  The error of an instruction. No condition.
-/
import Derived.Test.YtkjcokmbjdafnaaDoorFnM6
set_option linter.unusedVariables false
set_option linter.unusedSimpArgs false
set_option maxRecDepth 100000
set_option maxHeartbeats 0
namespace Go.Proofs.YtkjcokmbjdafnaaDoor
open Go.Abs
attribute [local irreducible] CallS Run RndS
theorem reads_len (i : Ins) : (reads i).1.length ≤ 1000000 := by
  have h := asc_len (a := 0) (b := 4096) (asc_reads i) (fun x hx => ((reads_in i).1 x hx).1) (fun x hx => ((reads_in i).1 x hx).2)
  omega
theorem writes_len (i : Ins) : (writes i).1.length ≤ 1000000 := by
  have h := asc_len (a := 0) (b := 4096) (asc_writes i) (fun x hx => ((writes_in i).1 x hx).1) (fun x hx => ((writes_in i).1 x hx).2)
  omega
def instE (p : Fn) (i : Ins) : Int :=
  if chk i ≠ 0 then chk i
  else if withinB p.regs (reads i) = true ∧ withinB p.regs (writes i) = true ∧ (isJump i.op = true → 0 ≤ i.b ∧ i.b < p.code.length) ∧ refersB p i = true then 0 else 4
theorem inst_pure (p : Fn) (hp : p.bd) (i : Ins) : Pure Tryd.prog 33 [.agg p.row, i.v] (.int .i64 (instE p i)) := by
  obtain ⟨h1, h2⟩ := fn_row11 p
  have hps := Fn.row_sub lost p
  have hc := check_pure i
  have hr := reads_pure i
  have hw := writes_pure i
  have hwr := within_pure p (reads i) (reads_len i)
  have hww := within_pure p (writes i) (writes_len i)
  have ht := target_pure i
  have hf := refers_pure p hp i
  have h5 : p.row[5]? = some (.isl (p.code.map Ins.row)) := by rw [Fn.row_eq]; rfl
  have k1 : (p.code.map Ins.row).length = p.code.length := List.length_map ..
  have f1 : ((reads i).1.map zrw).map (fun r => r.map (V.sub lost)) = (reads i).1.map zrw := subZ' _
  have f2 : ((writes i).1.map zrw).map (fun r => r.map (V.sub lost)) = (writes i).1.map zrw := subZ' _
  generalize hz : instE p i = z
  unfold instE at hz
  generalize (reads i).1.map zrw = rr at *
  generalize (writes i).1.map zrw = rw at *
  generalize (reads i).2 = r2 at *
  generalize (writes i).2 = w2 at *
  generalize withinB p.regs (reads i) = b1 at *
  generalize withinB p.regs (writes i) = b2 at *
  generalize refersB p i = b3 at *
  generalize chk i = ck at *
  generalize isJump i.op = jj at *
  generalize p.code.map Ins.row = rcode at *
  generalize p.row = pr at *
  obtain ⟨op, a, b, c, d⟩ := i
  simp only [Ins.v, Ins.row] at *
  refine Pure.of 0 (CallS.enter proto_instruction_ok (Nat.le_of_ble_eq_true rfl) (Run.go 100 ?_))
  simp -implicitDefEqProofs only [go_sem, initSl, h1, h2]
  refine CallS.pureF hc (by simp -implicitDefEqProofs only [go_sem]) ?_
  by_cases c0 : ck = 0
  case neg =>
    rw [if_pos c0] at hz
    subst hz
    simp -implicitDefEqProofs only [go_sem, c0]
  rw [if_neg (by simpa using c0)] at hz
  simp -implicitDefEqProofs only [go_sem, c0]
  refine CallS.pureF hr (by simp -implicitDefEqProofs only [go_sem]) ?_
  simp -implicitDefEqProofs only [go_sem]
  refine CallS.pureF hw (by simp -implicitDefEqProofs only [go_sem]) ?_
  simp -implicitDefEqProofs only [go_sem, h1, h2]
  refine CallS.pureF hwr (by simp -implicitDefEqProofs only [go_sem, hps, f1]) ?_
  cases b1
  · obtain rfl : z = 4 := hz ▸ if_neg (fun h => by simp at h)
    simp -implicitDefEqProofs only [go_sem]
  simp -implicitDefEqProofs only [go_sem, h1, h2]
  refine CallS.pureF hww (by simp -implicitDefEqProofs only [go_sem, hps, f2]) ?_
  cases b2
  · obtain rfl : z = 4 := hz ▸ if_neg (fun h => by simp at h)
    simp -implicitDefEqProofs only [go_sem]
  simp -implicitDefEqProofs only [go_sem]
  refine CallS.pureF ht (by simp -implicitDefEqProofs only [go_sem]) ?_
  cases jj
  · simp -implicitDefEqProofs only [go_sem, h1, h2]
    refine CallS.pureF hf (by simp -implicitDefEqProofs only [go_sem, hps]) ?_
    cases b3
    · obtain rfl : z = 4 := hz ▸ if_neg (fun h => by simp at h)
      simp -implicitDefEqProofs only [go_sem]
    · obtain rfl : z = 0 := hz ▸ if_pos (by simp)
      simp -implicitDefEqProofs only [go_sem]
  · by_cases d1 : b < 0
    · obtain rfl : z = 4 := hz ▸ if_neg (fun h => by have := (h.2.2.1 rfl).1; omega)
      simp -implicitDefEqProofs only [go_sem, d1, h1, h2, h5, k1]
    by_cases d2 : b < (p.code.length : Int)
    · simp -implicitDefEqProofs only [go_sem, d1, d2, h1, h2, h5, k1, ge_iff_le, Int.not_le.2 d2]
      refine CallS.pureF hf (by simp -implicitDefEqProofs only [go_sem, hps]) ?_
      cases b3
      · obtain rfl : z = 4 := hz ▸ if_neg (fun h => by simp at h)
        simp -implicitDefEqProofs only [go_sem]
      · obtain rfl : z = 0 := hz ▸ if_pos ⟨rfl, rfl, fun _ => ⟨by omega, d2⟩, rfl⟩
        simp -implicitDefEqProofs only [go_sem]
    · obtain rfl : z = 4 := hz ▸ if_neg (fun h => d2 (h.2.2.1 rfl).2)
      have d3 : ((p.code.length : Int) ≤ b) = True := eq_true (by omega)
      simp -implicitDefEqProofs only [go_sem, d1, d2, d3, h1, h2, h5, k1]
end Go.Proofs.YtkjcokmbjdafnaaDoor
