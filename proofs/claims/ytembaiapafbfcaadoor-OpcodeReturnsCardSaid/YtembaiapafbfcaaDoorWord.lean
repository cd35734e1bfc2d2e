/-
  Words of 64 bits out of fields, and fields out of words. No program, no condition.
-/
import Derived.Test.YtembaiapafbfcaaDoorOpT
import Derived.Test.YtembaiapafbfcaaDoorOps
set_option linter.unusedVariables false
set_option linter.unusedSimpArgs false
set_option maxRecDepth 100000
namespace Go.Proofs.YtembaiapafbfcaaDoor
open Go Go.Abs

theorem wrap_u {z : Int} (h0 : 0 ≤ z) (h : z < 18446744073709551616) : IntKind.wrap .u64 z = z := by
  have e : IntKind.wrap .u64 z = z % 18446744073709551616 := rfl
  rw [e]; omega
theorem wrap_i {z : Int} (h0 : 0 ≤ z) (h : z < 9223372036854775808) : IntKind.wrap .i64 z = z := by
  have e : IntKind.wrap .i64 z = if z % 18446744073709551616 ≥ 9223372036854775808 then z % 18446744073709551616 - 18446744073709551616 else z % 18446744073709551616 := by
    unfold IntKind.wrap
    simp [IntKind.signed, IntKind.bits]
  rw [e, if_neg (by omega)]; omega
theorem ofInt_nat (n : Nat) (h : n < 18446744073709551616) : (BitVec.ofInt 64 (n : Int)).toNat = n := by
  rw [BitVec.toNat_ofInt]; omega
theorem bit_or (x y k : Nat) (hx : x < 2 ^ k) (h : x + y * 2 ^ k < 18446744073709551616) : bitZ .or .u64 (x : Int) ((y * 2 ^ k : Nat) : Int) = ((x + y * 2 ^ k : Nat) : Int) := by
  have e : bitZ .or .u64 (x : Int) ((y * 2 ^ k : Nat) : Int) = IntKind.wrap .u64 ((BitVec.ofInt 64 (x : Int) ||| BitVec.ofInt 64 ((y * 2 ^ k : Nat) : Int)).toNat : Nat) := rfl
  rw [e, BitVec.toNat_or, ofInt_nat _ (by omega), ofInt_nat _ (by omega)]
  have e2 : x ||| y * 2 ^ k = x + y * 2 ^ k := by
    rw [Nat.or_comm, Nat.mul_comm y, ← Nat.two_pow_add_eq_or_of_lt hx, Nat.add_comm]
  rw [e2]
  exact wrap_u (by omega) (by omega)
theorem bit_and (a k : Nat) (hk : k < 64) (h : a < 18446744073709551616) : bitZ .and .u64 (a : Int) ((2 ^ k - 1 : Nat) : Int) = ((a % 2 ^ k : Nat) : Int) := by
  have hp : 2 ^ k ≤ 2 ^ 63 := Nat.pow_le_pow_right (by decide) (by omega)
  have e : bitZ .and .u64 (a : Int) ((2 ^ k - 1 : Nat) : Int) = IntKind.wrap .u64 ((BitVec.ofInt 64 (a : Int) &&& BitVec.ofInt 64 ((2 ^ k - 1 : Nat) : Int)).toNat : Nat) := rfl
  rw [e, BitVec.toNat_and, ofInt_nat _ h, ofInt_nat _ (by omega), Nat.and_two_pow_sub_one_eq_mod]
  have : a % 2 ^ k ≤ a := Nat.mod_le _ _
  exact wrap_u (by omega) (by omega)
theorem and63 {z : Int} (h0 : 0 ≤ z) (h : z < 18446744073709551616) : bitZ .and .u64 z 63 = z % 64 := by
  have := bit_and z.toNat 6 (by decide) (by omega)
  rw [show ((z.toNat : Nat) : Int) = z by omega] at this
  rw [show ((2 ^ 6 - 1 : Nat) : Int) = 63 from rfl] at this
  rw [this]; omega
theorem and65535 {z : Int} (h0 : 0 ≤ z) (h : z < 18446744073709551616) : bitZ .and .u64 z 65535 = z % 65536 := by
  have := bit_and z.toNat 16 (by decide) (by omega)
  rw [show ((z.toNat : Nat) : Int) = z by omega] at this
  rw [show ((2 ^ 16 - 1 : Nat) : Int) = 65535 from rfl] at this
  rw [this]; omega
theorem orZ {x y : Int} (k : Nat) (h0 : 0 ≤ x) (hx : x < (2 ^ k : Nat)) (hy : 0 ≤ y) (h : x + y * (2 ^ k : Nat) < 18446744073709551616) : bitZ .or .u64 x (y * (2 ^ k : Nat)) = x + y * (2 ^ k : Nat) := by
  obtain ⟨n, rfl⟩ := Int.eq_ofNat_of_zero_le h0
  obtain ⟨m, rfl⟩ := Int.eq_ofNat_of_zero_le hy
  have e : (m : Int) * ((2 ^ k : Nat) : Int) = ((m * 2 ^ k : Nat) : Int) := (Int.natCast_mul ..).symm
  rw [e] at h
  have h2 : n + m * 2 ^ k < 18446744073709551616 := by omega
  have := bit_or n m k (Int.ofNat_lt.1 hx) h2
  rw [Int.natCast_mul, Int.natCast_add, Int.natCast_mul] at this
  exact this
theorem shl_u {a b : Int} (k : Nat) (hb : b = k) (hk : k ≤ 64) (h0 : 0 ≤ a) (h : a * (2 ^ k : Nat) < 18446744073709551616) : shZ true .u64 a b = a * (2 ^ k : Nat) := by
  subst hb
  have e : shZ true .u64 a (k : Int) = IntKind.wrap .u64 (a * 2 ^ (min (k : Int).toNat 64)) := rfl
  rw [e, show min (k : Int).toNat 64 = k by omega]
  have e2 : a * (2 : Int) ^ k = a * ((2 ^ k : Nat) : Int) := by rw [Int.natCast_pow]; rfl
  rw [e2]
  exact wrap_u (Int.mul_nonneg h0 (Int.natCast_nonneg _)) h
theorem shr_u {a b : Int} (k : Nat) (hb : b = k) (hk : k ≤ 64) : shZ false .u64 a b = a / (2 ^ k : Nat) := by
  subst hb
  have e : shZ false .u64 a (k : Int) = a.fdiv (2 ^ (min (k : Int).toNat 64)) := rfl
  have e2 : (2 : Int) ^ k = ((2 ^ k : Nat) : Int) := by rw [Int.natCast_pow]; rfl
  rw [e, show min (k : Int).toNat 64 = k by omega, e2, Int.fdiv_eq_ediv_of_nonneg _ (Int.natCast_nonneg _)]

/-- The word of an instruction that is accepted. -/
def encZ (i : Ins) : Int := i.op + i.a * 64 + (i.b + 32768) * 4194304 + (i.c + 32768) * 274877906944 + i.d * 18014398509481984
def decI (w : Int) : Ins := ⟨w % 64, w / 64 % 65536, w / 4194304 % 65536 - 32768, w / 274877906944 % 65536 - 32768, w / 18014398509481984⟩
end Go.Proofs.YtembaiapafbfcaaDoor
