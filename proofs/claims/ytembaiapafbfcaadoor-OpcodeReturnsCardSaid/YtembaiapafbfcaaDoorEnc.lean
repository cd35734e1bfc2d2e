/-
  Words of instructions: what Encode and Decode answer; there and back. No condition.
-/
import Derived.Test.YtembaiapafbfcaaDoorOpc3
import Derived.Test.YtembaiapafbfcaaDoorWord
set_option linter.unusedVariables false
set_option linter.unusedSimpArgs false
set_option maxRecDepth 100000
set_option maxHeartbeats 0
namespace Go.Proofs.YtembaiapafbfcaaDoor
open Go Go.Abs
attribute [local irreducible] CallS Run
-- EV: Ins.v, Ins.row

def encV (i : Ins) : V := .tup [.int .u64 (if chk i = 0 then encZ i else 0), .int .i64 (chk i)]
theorem enc_facts {i : Ins} (h : chk i = 0) : (1 ≤ i.op ∧ i.op ≤ 29) ∧ (0 ≤ i.a ∧ i.a ≤ 4095) ∧ (-1 ≤ i.b ∧ i.b ≤ 16383) ∧ (-1 ≤ i.c ∧ i.c ≤ 32767) ∧ (0 ≤ i.d ∧ i.d ≤ 19) := by
  obtain ⟨h1, h2, h3, h4, h5, h6, h7, h8, h9, h10⟩ := chk_ok h
  have := of_decide_eq_true (show decide (1 ≤ i.op ∧ i.op ≤ 29) = true from h1)
  omega

theorem encode_pure (i : Ins) : Abs.Pure Tryd.prog 5 [i.v] (encV i) := by
  unfold encV
  refine Pure.of 0 (CallS.enter opcode_Encode_ok (Nat.le_of_ble_eq_true rfl) (Run.go 100 ?_))
  simp -implicitDefEqProofs only [go_sem, Ins.v, Ins.row, initSl]
  refine CallS.pureF (check_pure i) (by simp -implicitDefEqProofs only [go_sem, Ins.v, Ins.row]) ?_
  by_cases hc : chk i = 0
  case neg => simp -implicitDefEqProofs only [go_sem, Ins.v, Ins.row, hc]
  obtain ⟨⟨a1, a2⟩, ⟨b1, b2⟩, ⟨c1, c2⟩, ⟨d1, d2⟩, ⟨e1, e2⟩⟩ := enc_facts hc
  obtain ⟨op, a, b, c, d⟩ := i
  simp only at a1 a2 b1 b2 c1 c2 d1 d2 e1 e2
  have w1 := wrap_u (z := op) (by omega) (by omega)
  have w2 := wrap_u (z := a) (by omega) (by omega)
  have w3 := wrap_u (z := b + 32768) (by omega) (by omega)
  have w4 := wrap_u (z := c + 32768) (by omega) (by omega)
  have w5 := wrap_u (z := d) (by omega) (by omega)
  have s2 : shZ true .u64 a 6 = a * 64 := shl_u 6 rfl (by decide) (by omega) (by omega)
  have s3 : shZ true .u64 (b + 32768) 22 = (b + 32768) * 4194304 := shl_u 22 rfl (by decide) (by omega) (by omega)
  have s4 : shZ true .u64 (c + 32768) 38 = (c + 32768) * 274877906944 := shl_u 38 rfl (by decide) (by omega) (by omega)
  have s5 : shZ true .u64 d 54 = d * 18014398509481984 := shl_u 54 rfl (by decide) (by omega) (by omega)
  have o2 : bitZ .or .u64 op (a * 64) = op + a * 64 := orZ 6 (by omega) (by omega) (by omega) (by omega)
  have o3 : bitZ .or .u64 (op + a * 64) ((b + 32768) * 4194304) = op + a * 64 + (b + 32768) * 4194304 := orZ 22 (by omega) (by omega) (by omega) (by omega)
  have o4 : bitZ .or .u64 (op + a * 64 + (b + 32768) * 4194304) ((c + 32768) * 274877906944) = op + a * 64 + (b + 32768) * 4194304 + (c + 32768) * 274877906944 := orZ 38 (by omega) (by omega) (by omega) (by omega)
  have o5 : bitZ .or .u64 (op + a * 64 + (b + 32768) * 4194304 + (c + 32768) * 274877906944) (d * 18014398509481984) = op + a * 64 + (b + 32768) * 4194304 + (c + 32768) * 274877906944 + d * 18014398509481984 := orZ 54 (by omega) (by omega) (by omega) (by omega)
  simp -implicitDefEqProofs only [go_sem, Ins.v, Ins.row, hc, encZ, w1, w2, w3, w4, w5, s2, s3, s4, s5, o2, o3, o4, o5]
  omega

def decV (w : Int) : V := if 4611686018427387904 ≤ w then .tup [.agg [.int .i64 0, .int .i64 0, .int .i64 0, .int .i64 0, .int .i64 0], .int .i64 4] else .tup [if chk (decI w) = 0 then (decI w).v else .agg [.int .i64 0, .int .i64 0, .int .i64 0, .int .i64 0, .int .i64 0], .int .i64 (chk (decI w))]

theorem decode_pure (w : Int) (h0 : 0 ≤ w) (h1 : w < 18446744073709551616) : Abs.Pure Tryd.prog 6 [.int .u64 w] (decV w) := by
  unfold decV
  refine Pure.of 0 (CallS.enter opcode_Decode_ok (Nat.le_of_ble_eq_true rfl) (Run.go 100 ?_))
  by_cases hw : 4611686018427387904 ≤ w
  · rw [if_pos hw]
    simp -implicitDefEqProofs only [go_sem, Ins.v, Ins.row, initSl, hw]
  rw [if_neg hw]
  have hck := check_pure (decI w)
  have n1 := and63 h0 h1
  have r2 : shZ false .u64 w 6 = w / 64 := shr_u 6 rfl (by decide)
  have r3 : shZ false .u64 w 22 = w / 4194304 := shr_u 22 rfl (by decide)
  have r4 : shZ false .u64 w 38 = w / 274877906944 := shr_u 38 rfl (by decide)
  have r5 : shZ false .u64 w 54 = w / 18014398509481984 := shr_u 54 rfl (by decide)
  have n2 := and65535 (z := w / 64) (by omega) (by omega)
  have n3 := and65535 (z := w / 4194304) (by omega) (by omega)
  have n4 := and65535 (z := w / 274877906944) (by omega) (by omega)
  have i1 := wrap_i (z := w % 64) (by omega) (by omega)
  have i2 := wrap_i (z := w / 64 % 65536) (by omega) (by omega)
  have i3 := wrap_i (z := w / 4194304 % 65536) (by omega) (by omega)
  have i4 := wrap_i (z := w / 274877906944 % 65536) (by omega) (by omega)
  have i5 := wrap_i (z := w / 18014398509481984) (by omega) (by omega)
  have j3 : -9223372036854775808 ≤ w / 4194304 % 65536 - 32768 ∧ w / 4194304 % 65536 - 32768 ≤ 9223372036854775807 := by omega
  have j4 : -9223372036854775808 ≤ w / 274877906944 % 65536 - 32768 ∧ w / 274877906944 % 65536 - 32768 ≤ 9223372036854775807 := by omega
  by_cases hc : chk (decI w) = 0
  · rw [hc] at hck
    rw [if_pos hc, hc]
    simp only [decI, Ins.v, Ins.row] at hck ⊢
    simp -implicitDefEqProofs only [go_sem, Ins.v, Ins.row, initSl, hw, n1, r2, r3, r4, r5, n2, n3, n4, i1, i2, i3, i4, i5]
    refine ⟨by omega, by omega, ?_⟩
    refine CallS.pureF hck (by simp -implicitDefEqProofs only [go_sem, Ins.v, Ins.row]) ?_
    simp -implicitDefEqProofs only [go_sem, Ins.v, Ins.row]
  · rw [if_neg hc]
    generalize chk (decI w) = ck at *
    simp only [decI, Ins.v, Ins.row] at hck ⊢
    simp -implicitDefEqProofs only [go_sem, Ins.v, Ins.row, initSl, hw, n1, r2, r3, r4, r5, n2, n3, n4, i1, i2, i3, i4, i5]
    refine ⟨by omega, by omega, ?_⟩
    refine CallS.pureF hck (by simp -implicitDefEqProofs only [go_sem, Ins.v, Ins.row]) ?_
    simp -implicitDefEqProofs only [go_sem, Ins.v, Ins.row, hc]


theorem enc_dec {i : Ins} (h : chk i = 0) : 0 ≤ encZ i ∧ encZ i < 4611686018427387904 ∧ decI (encZ i) = i := by
  obtain ⟨⟨a1, a2⟩, ⟨b1, b2⟩, ⟨c1, c2⟩, ⟨d1, d2⟩, ⟨e1, e2⟩⟩ := enc_facts h
  obtain ⟨op, a, b, c, d⟩ := i
  simp only at a1 a2 b1 b2 c1 c2 d1 d2 e1 e2
  unfold encZ decI
  refine ⟨by simp only; omega, by simp only; omega, ?_⟩
  simp only [Ins.mk.injEq]
  refine ⟨by omega, by omega, by omega, by omega, by omega⟩
theorem dec_enc {w : Int} (h0 : 0 ≤ w) (h1 : w < 4611686018427387904) (h : chk (decI w) = 0) : encZ (decI w) = w := by
  obtain ⟨⟨a1, a2⟩, ⟨b1, b2⟩, ⟨c1, c2⟩, ⟨d1, d2⟩, ⟨e1, e2⟩⟩ := enc_facts h
  unfold encZ decI at *
  simp only at *
  omega
end Go.Proofs.YtembaiapafbfcaaDoor
