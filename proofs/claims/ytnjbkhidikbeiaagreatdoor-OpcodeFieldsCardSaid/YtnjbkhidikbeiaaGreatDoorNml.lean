/-
  The numeral of an integer: what numeral.Parse reads of it. No condition.
-/
import Derived.Test.YtnjbkhidikbeiaaGreatDoorTxt0
import Derived.Test.YtnjbkhidikbeiaaGreatDoorExe
import Derived.Test.YtnjbkhidikbeiaaGreatDoorCode
import Derived.Test.YtnjbkhidikbeiaaGreatDoorWk
set_option linter.unusedVariables false
set_option linter.unusedSimpArgs false
set_option maxRecDepth 100000
set_option maxHeartbeats 0
namespace Go.Proofs.YtnjbkhidikbeiaaGreatDoor
open Go Go.Abs
attribute [local irreducible] CallS Run

/-! Blanks. -/
def asR : List V := (List.range 256).map fun i => .bool (i == 9 || i == 10 || i == 13 || i == 32)
theorem as_make : Abs.Pure Tryz.prog 48 [.str [32, 9, 10, 13]] (.tup [.agg asR, .bool true]) := Pure.execB (m := 1000) (d := 4) (fr := 1) exT_ok noLib_ok (by kernel_rfl)
/-- A sign or a digit. -/
def plainC (c : UInt8) : Prop := c.toNat = 45 ∨ (48 ≤ c.toNat ∧ c.toNat ≤ 57)
theorem as_at : ∀ n : Nat, n < 58 → (n = 45 ∨ 48 ≤ n) → asR[n]? = some (.bool false) := by
  intro n h1 h2
  have : n < 256 := by omega
  unfold asR
  rw [List.getElem?_map, List.getElem?_range this]
  simp
  omega
theorem as_len : asR.length = 256 := by simp [asR]

abbrev sN : Nat := (31 * 10000 + 5)
-- EV: sN

theorem contains_c (st n : Nat) (c : UInt8) (hc : plainC c) : CallS Tryz.prog 72 [.ptr sN st 0 0, .int .u8 c.toNat] [(sN, st, .rows 256 [asR])] n (fun r h' _ => r = .bool false ∧ h' = [(sN, st, .rows 256 [asR])]) := by
  refine CallS.enterK strings_asciiSet_contains_ok (Nat.le_of_ble_eq_true rfl) fun Q hQ => Run.go 100 ?_
  have h1 := as_at c.toNat (by unfold plainC at hc; omega) (by unfold plainC at hc; omega)
  have h2 : ((c.toNat : Int) < 256) = True := eq_true (by unfold plainC at hc; omega)
  have h3 : ((0 : Int) ≤ (c.toNat : Int)) = True := eq_true (by omega)
  generalize asR = A at *
  simp -implicitDefEqProofs only [go_sem, sN, initSl, h1, h2, h3, Nat.zero_add, Nat.mul_one]
  subst hQ
  exact .is ⟨rfl, rfl⟩

theorem trimL_c (st n : Nat) (c : UInt8) (s : List UInt8) (hc : plainC c) : CallS Tryz.prog 49 [.str (c :: s), .ptr sN st 0 0] [(sN, st, .rows 256 [asR])] n (fun r h' _ => r = .str (c :: s) ∧ h' = [(sN, st, .rows 256 [asR])]) := by
  refine CallS.enterK strings_trimLeftASCII_ok (Nat.le_of_ble_eq_true rfl) fun Q hQ => Run.go 100 ?_
  have hcc := contains_c st n c hc
  generalize asR = A at *
  simp -implicitDefEqProofs only [go_sem, sN, initSl]
  refine Run.loop (Run.unf strings_trimLeftASCII_l0_eq (Run.go 100 ?_))
  simp -implicitDefEqProofs only [go_sem, sN]
  refine ⟨fun _ => ?_, fun h => absurd (by omega) h⟩
  refine hcc.mono ?_
  rintro r h' n' ⟨rfl, rfl⟩
  simp -implicitDefEqProofs only [go_sem, sN]
  subst hQ
  exact .is ⟨rfl, rfl⟩

theorem trimR_c (st n : Nat) (c : UInt8) (s : List UInt8) (hl : s[s.length - 1]? = some c) (hB : s.length ≤ 100000) (hc : plainC c) : CallS Tryz.prog 50 [.str s, .ptr sN st 0 0] [(sN, st, .rows 256 [asR])] n (fun r h' _ => r = .str s ∧ h' = [(sN, st, .rows 256 [asR])]) := by
  refine CallS.enterK strings_trimRightASCII_ok (Nat.le_of_ble_eq_true rfl) fun Q hQ => Run.go 100 ?_
  have hcc := contains_c st n c hc
  have hs : 0 < s.length := by
    cases s with
    | nil => simp at hl
    | cons => simp
  generalize asR = A at *
  simp -implicitDefEqProofs only [go_sem, sN, initSl]
  refine Run.loop (Run.unf strings_trimRightASCII_l0_eq (Run.go 100 ?_))
  have e1 : ((0 : Int) < (s.length : Int)) = True := eq_true (by omega)
  have e2 : ((s.length : Int) - 1).toNat = s.length - 1 := by omega
  simp -implicitDefEqProofs only [go_sem, sN, e1, e2, hl]
  refine ⟨⟨by omega, by omega⟩, by omega, ?_⟩
  refine hcc.mono ?_
  rintro r h' n' ⟨rfl, rfl⟩
  simp -implicitDefEqProofs only [go_sem, sN]
  subst hQ
  exact .is ⟨rfl, rfl⟩

theorem trim_pure (c : UInt8) (t : List UInt8) (hB : (c :: t).length ≤ 100000) (hc : ∀ x ∈ c :: t, plainC x) : Abs.Pure Tryz.prog 31 [.str (c :: t), .str [32, 9, 10, 13]] (.str (c :: t)) := by
  refine Pure.of 0 (CallS.enter strings_Trim_ok (Nat.le_of_ble_eq_true rfl) (Run.go 100 ?_))
  have hm := as_make
  have hlen := as_len
  obtain ⟨d, hd⟩ : ∃ d, (c :: t)[(c :: t).length - 1]? = some d := ⟨(c :: t)[(c :: t).length - 1]'(by simp), by simp⟩
  have hl := fun st n => trimL_c st n c t (hc c List.mem_cons_self)
  have hr := fun st n => trimR_c st n d (c :: t) hd hB (hc d (List.mem_of_getElem? hd))
  generalize asR = A at *
  simp -implicitDefEqProofs only [go_sem, sN, initSl]
  refine CallS.pureF hm (by simp -implicitDefEqProofs only [go_sem, sN]) ?_
  simp -implicitDefEqProofs only [go_sem, sN, hlen, List.drop_replicate, List.replicate_zero, List.append_nil]
  refine (hr 0 1).mono ?_
  rintro r h' n' ⟨rfl, rfl⟩
  simp -implicitDefEqProofs only [go_sem, sN]
  refine (hl 0 n').mono ?_
  rintro r h' n' ⟨rfl, rfl⟩
  simp -implicitDefEqProofs only [go_sem, sN]
theorem ntrim_pure (c : UInt8) (t : List UInt8) (hB : (c :: t).length ≤ 100000) (hc : ∀ x ∈ c :: t, plainC x) : Abs.Pure Tryz.prog 18 [.str (c :: t)] (.str (c :: t)) := by
  refine Pure.of 0 (CallS.enter numeral_trim_ok (Nat.le_of_ble_eq_true rfl) (Run.go 100 ?_))
  simp -implicitDefEqProofs only [go_sem, sN, initSl]
  refine CallS.pureF (trim_pure c t hB hc) (by simp -implicitDefEqProofs only [go_sem, sN]) ?_
  simp -implicitDefEqProofs only [go_sem, sN]

/-! The sign. -/
theorem hasP_pure (c : UInt8) (t : List UInt8) : Abs.Pure Tryz.prog 53 [.str (c :: t), .str [45]] (.bool (decide (c = 45))) := by
  refine Pure.of 0 (CallS.enter internal_stringslite_HasPrefix_ok (Nat.le_of_ble_eq_true rfl) (Run.go 100 ?_))
  simp -implicitDefEqProofs only [go_sem, sN, initSl]
  exact ⟨fun h => h, fun h => absurd (by omega) h⟩
theorem cut_no (c : UInt8) (t : List UInt8) (h : ¬ c = 45) : Abs.Pure Tryz.prog 19 [.str (c :: t), .str [45]] (.tup [.str (c :: t), .bool false]) := by
  have hp := hasP_pure c t
  rw [decide_eq_false h] at hp
  have h1 : Abs.Pure Tryz.prog 32 [.str (c :: t), .str [45]] (.tup [.str (c :: t), .bool false]) := by
    refine Pure.of 0 (CallS.enter internal_stringslite_CutPrefix_ok (Nat.le_of_ble_eq_true rfl) (Run.go 100 ?_))
    simp -implicitDefEqProofs only [go_sem, sN, initSl]
    refine CallS.pureF hp (by simp -implicitDefEqProofs only [go_sem, sN]) ?_
    simp -implicitDefEqProofs only [go_sem, sN]
  refine Pure.of 0 (CallS.enter strings_CutPrefix_ok (Nat.le_of_ble_eq_true rfl) (Run.go 100 ?_))
  simp -implicitDefEqProofs only [go_sem, sN, initSl]
  refine CallS.pureF h1 (by simp -implicitDefEqProofs only [go_sem, sN]) ?_
  simp -implicitDefEqProofs only [go_sem, sN]
theorem cut_yes (t : List UInt8) (hB : t.length ≤ 100000) : Abs.Pure Tryz.prog 19 [.str (45 :: t), .str [45]] (.tup [.str t, .bool true]) := by
  have hp := hasP_pure 45 t
  rw [decide_eq_true rfl] at hp
  have h1 : Abs.Pure Tryz.prog 32 [.str (45 :: t), .str [45]] (.tup [.str t, .bool true]) := by
    refine Pure.of 0 (CallS.enter internal_stringslite_CutPrefix_ok (Nat.le_of_ble_eq_true rfl) (Run.go 100 ?_))
    simp -implicitDefEqProofs only [go_sem, sN, initSl]
    refine CallS.pureF hp (by simp -implicitDefEqProofs only [go_sem, sN]) ?_
    simp -implicitDefEqProofs only [go_sem, sN]
    exact ⟨by omega, by omega, List.take_of_length_le (by omega)⟩
  refine Pure.of 0 (CallS.enter strings_CutPrefix_ok (Nat.le_of_ble_eq_true rfl) (Run.go 100 ?_))
  simp -implicitDefEqProofs only [go_sem, sN, initSl]
  refine CallS.pureF h1 (by simp -implicitDefEqProofs only [go_sem, sN]) ?_
  simp -implicitDefEqProofs only [go_sem, sN]

/-! Digits. -/
def digC (c : UInt8) : Prop := 48 ≤ c.toNat ∧ c.toNat ≤ 57
theorem digit_pure (c : UInt8) (h : digC c) : Abs.Pure Tryz.prog 54 [.int .u8 c.toNat] (.int .i64 ((c.toNat : Int) - 48)) := by
  refine Pure.of 0 (CallS.enter numeral_digit_ok (Nat.le_of_ble_eq_true rfl) (Run.go 100 ?_))
  have h1 : ((48 : Int) ≤ (c.toNat : Int)) = True := eq_true (by unfold digC at h; omega)
  have h2 : ((c.toNat : Int) ≤ 57) = True := eq_true (by unfold digC at h; omega)
  simp -implicitDefEqProofs only [go_sem, sN, initSl, h1, h2]
  unfold digC at h
  rw [show IntKind.wrap .u8 ((c.toNat : Int) - 48) = (c.toNat : Int) - 48 from by show ((c.toNat : Int) - 48) % 256 = _; omega]
  exact i64_wrap (by omega) (by omega)
theorem run_pure (t : List UInt8) (hB : t.length ≤ 100000) (ht : ∀ c ∈ t, digC c) : Abs.Pure Tryz.prog 33 [.str t, .int .i64 0, .int .i64 10] (.int .i64 t.length) := by
  refine Pure.of 0 (CallS.enter numeral_run_ok (Nat.le_of_ble_eq_true rfl) (Run.go 100 ?_))
  simp -implicitDefEqProofs only [go_sem, sN, initSl]
  refine Run.rounds (fun (k : Nat) => ⟨[(2, .int .i64 10), (1, .int .i64 k), (0, .str t)], [], 0⟩) (fun k => k ≤ t.length) (fun k => t.length - k) 0 (by first | (simp -implicitDefEqProofs only [go_sem, sN]; done) | (simp -implicitDefEqProofs only [go_sem, sN]; simp)) (Nat.zero_le _) ?_
  intro k hk ih
  refine Run.unf numeral_run_l0_eq (Run.go 100 ?_)
  by_cases c : (k : Int) < t.length
  · obtain ⟨y, hy⟩ : ∃ y, t[k]? = some y := ⟨t[k]'(by omega), by simp⟩
    have hd := ht y (List.mem_of_getElem? hy)
    have hdp := digit_pure y hd
    unfold digC at hd
    have k0 : ((0 : Int) ≤ (k : Int)) = True := eq_true (by omega)
    have d0 : ((0 : Int) ≤ (y.toNat : Int) - 48) = True := eq_true (by omega)
    have d1 : ((y.toNat : Int) - 48 < 10) = True := eq_true (by omega)
    simp -implicitDefEqProofs only [go_sem, sN, c, k0, hy]
    refine CallS.pureF hdp (by simp -implicitDefEqProofs only [go_sem, sN]) ?_
    simp -implicitDefEqProofs only [go_sem, sN, c, k0, hy, d0]
    refine CallS.pureF hdp (by simp -implicitDefEqProofs only [go_sem, sN]) ?_
    simp -implicitDefEqProofs only [go_sem, sN, d1]
    exact ⟨by omega, ih _ (k + 1) (by omega) (by omega) (by first | (simp -implicitDefEqProofs only [go_sem, sN]; done) | (simp -implicitDefEqProofs only [go_sem, sN]; simp))⟩
  · obtain rfl : k = t.length := by omega
    simp -implicitDefEqProofs only [go_sem, sN, c]
theorem find_pure (c : UInt8) (t : List UInt8) (hB : (c :: t).length ≤ 100000) (ht : ∀ x ∈ c :: t, digC x) : Abs.Pure Tryz.prog 20 [.str (c :: t), .int .i64 0] (.tup [.agg [.bool false, .int .i64 (-1), .int .i64 (t.length + 1 : Nat), .int .i64 0], .bool true]) := by
  refine Pure.of 0 (CallS.enter numeral_find_ok (Nat.le_of_ble_eq_true rfl) (Run.go 100 ?_))
  have hr := run_pure (c :: t) hB ht
  simp -implicitDefEqProofs only [go_sem, sN, initSl]
  refine CallS.pureF hr (by simp -implicitDefEqProofs only [go_sem, sN]) ?_
  have e1 : (((t.length + 1 : Nat) : Int) = 0) = False := eq_false (by omega)
  have e3 : t[t.length]? = none := by simp
  simp -implicitDefEqProofs only [go_sem, sN, e1, Int.lt_irrefl]
  done

/-- The number that digits mean. -/
def valN : List UInt8 → Nat → Nat
  | [], n => n
  | c :: r, n => valN r (10 * n + (c.toNat - 48))
theorem valN_append : ∀ (a b : List UInt8) (n : Nat), valN (a ++ b) n = valN b (valN a n)
  | [], _, _ => rfl
  | c :: a, b, n => valN_append a b _
theorem valN_ge : ∀ (a : List UInt8) (n : Nat), n ≤ valN a n
  | [], _ => Nat.le_refl _
  | c :: a, n => by rw [valN]; have := valN_ge a (10 * n + (c.toNat - 48)); omega
theorem valN_take (t : List UInt8) (k : Nat) : valN (t.take k) 0 ≤ valN t 0 := by
  have h := valN_append (t.take k) (t.drop k) 0
  rw [List.take_append_drop] at h
  rw [h]
  exact valN_ge _ _
theorem valN_succ {t : List UInt8} {k : Nat} {c : UInt8} (h : t[k]? = some c) : valN (t.take (k + 1)) 0 = 10 * valN (t.take k) 0 + (c.toNat - 48) := by
  rw [List.take_add_one, h, Option.toList_some, valN_append]
  rfl
theorem valN_dec : ∀ (u : Nat), valN (Lib.decDigits u) 0 = u := by
  intro u
  induction u using Nat.strongRecOn with
  | ind u ih =>
    rw [Lib.decDigits]
    by_cases h : u < 10
    · rw [dif_pos h, valN, valN, digit_nat h]; omega
    · rw [dif_neg h, valN_append, ih (u / 10) (by omega), valN, valN, digit_nat (by omega)]
      omega
theorem dec_dig (u : Nat) : ∀ c ∈ Lib.decDigits u, digC c := digits_in u

theorem integer_pure (t : List UInt8) (hB : t.length ≤ 100000) (ht : ∀ c ∈ t, digC c) (hv : valN t 0 ≤ 1000000) : Abs.Pure Tryz.prog 34 [.str t, .int .i64 10] (.tup [.int .i64 (valN t 0), .bool true]) := by
  refine Pure.of 0 (CallS.enter numeral_integer_ok (Nat.le_of_ble_eq_true rfl) (Run.go 100 ?_))
  simp -implicitDefEqProofs only [go_sem, sN, initSl]
  refine Run.rounds (fun (k : Nat) => ⟨[(11, .int .i64 k), (10, .int .i64 t.length), (6, .int .i64 (valN (t.take k) 0 : Nat)), (1, .int .i64 10), (0, .str t)], [], 0⟩) (fun k => k ≤ t.length) (fun k => t.length - k) 0 (by first | (simp -implicitDefEqProofs only [go_sem, sN, List.take_zero, valN]; done) | (simp -implicitDefEqProofs only [go_sem, sN, List.take_zero, valN]; simp)) (Nat.zero_le _) ?_
  intro k hk ih
  refine Run.unf numeral_integer_l0_eq (Run.go 100 ?_)
  by_cases c : (k : Int) < t.length
  · obtain ⟨y, hy⟩ : ∃ y, t[k]? = some y := ⟨t[k]'(by omega), by simp⟩
    have hd := ht y (List.mem_of_getElem? hy)
    have hdp := digit_pure y hd
    unfold digC at hd
    have k0 : ((0 : Int) ≤ (k : Int)) = True := eq_true (by omega)
    have hvk := valN_take t k
    have hs := valN_succ hy
    have ih2 := fun s => ih s (k + 1)
    rw [hs] at ih2
    generalize valN (t.take k) 0 = m at *
    simp -implicitDefEqProofs only [go_sem, sN, c, k0, hy]
    refine CallS.pureF hdp (by simp -implicitDefEqProofs only [go_sem, sN]) ?_
    simp -implicitDefEqProofs only [go_sem, sN]
    have hq : ((4611686018427387904 - ((y.toNat : Int) - 48)).tdiv 10) ≥ 400000000000000000 := by
      rw [Int.tdiv_eq_ediv_of_nonneg (by omega)]; omega
    have hq2 : ((4611686018427387904 - ((y.toNat : Int) - 48)).tdiv 10) ≤ 4611686018427387904 := by
      rw [Int.tdiv_eq_ediv_of_nonneg (by omega)]; omega
    generalize (4611686018427387904 - ((y.toNat : Int) - 48)).tdiv 10 = Z at *
    rw [show (m : Int) * 10 + ((y.toNat : Int) - 48) = ((10 * m + (y.toNat - 48) : Nat) : Int) from by omega]
    have hv2 : 10 * m + (y.toNat - 48) ≤ valN t 0 := by rw [← hs]; exact valN_take t (k + 1)
    exact ⟨⟨by omega, by omega⟩, ⟨by omega, by omega⟩, fun h => absurd h (by omega), fun _ => ⟨⟨by omega, by omega⟩, ⟨by omega, by omega⟩, ⟨by omega, by omega⟩, ih2 _ (by omega) (by omega) (by first | (simp -implicitDefEqProofs only [go_sem, sN]; done) | (simp -implicitDefEqProofs only [go_sem, sN]; simp))⟩⟩
  · obtain rfl : k = t.length := by omega
    rw [List.take_length]
    simp -implicitDefEqProofs only [go_sem, sN, c]

theorem gcd1_pure (u : Nat) : Abs.Pure Tryz.prog 76 [.int .i64 u, .int .i64 1] (.int .i64 1) := by
  refine Pure.of 0 (CallS.enter rational_gcd_ok (Nat.le_of_ble_eq_true rfl) (Run.go 100 ?_))
  simp -implicitDefEqProofs only [go_sem, sN, initSl]
  refine Run.loop (Run.unf rational_gcd_l0_eq (Run.go 100 ?_))
  simp -implicitDefEqProofs only [go_sem, sN]
  refine Run.lp (Run.unf rational_gcd_l0_eq (Run.go 100 ?_))
  have e : (u : Int).tmod 1 = 0 := Int.tmod_one _
  simp -implicitDefEqProofs only [go_sem, sN, e]
theorem reduce1_pure (u : Nat) (h : u ≤ 1000000) : Abs.Pure Tryz.prog 55 [.int .i64 u, .int .i64 1] (.tup [.agg [.int .i64 u, .int .i64 1], .int .i64 0]) := by
  refine Pure.of 0 (CallS.enter rational_reduce_ok (Nat.le_of_ble_eq_true rfl) (Run.go 100 ?_))
  have e2 : (u : Int).tdiv 1 = (u : Int) := Int.tdiv_one _
  have e3 : ((u : Int) < -2147483647) = False := eq_false (by omega)
  have e4 : ((2147483647 : Int) < (u : Int)) = False := eq_false (by omega)
  simp -implicitDefEqProofs only [go_sem, sN, initSl]
  refine ⟨⟨by omega, by omega⟩, ?_⟩
  rw [if_neg (by omega)]
  refine CallS.pureF (gcd1_pure u) (by simp -implicitDefEqProofs only [go_sem, sN]) ?_
  simp -implicitDefEqProofs only [go_sem, sN, e2, e3, e4]
  exact ⟨⟨by omega, by omega⟩, by decide, fun h => absurd h (by decide), fun _ => by decide⟩
theorem make1_pure (u : Nat) (h : u ≤ 1000000) : Abs.Pure Tryz.prog 35 [.int .i64 u, .int .i64 1] (.tup [.agg [.int .i64 u, .int .i64 1], .int .i64 0]) := by
  refine Pure.of 0 (CallS.enter rational_Make_ok (Nat.le_of_ble_eq_true rfl) (Run.go 100 ?_))
  have e3 : ((u : Int) < -4611686018427387904) = False := eq_false (by omega)
  have e4 : ((4611686018427387904 : Int) < (u : Int)) = False := eq_false (by omega)
  simp -implicitDefEqProofs only [go_sem, sN, initSl, e3, e4]
  refine CallS.pureF (reduce1_pure u h) (by simp -implicitDefEqProofs only [go_sem, sN]) ?_
  simp -implicitDefEqProofs only [go_sem, sN]
theorem number_pure (t : List UInt8) (m : Nat) (hm : m = t.length) (hB : t.length ≤ 100000) (ht : ∀ c ∈ t, digC c) (hv : valN t 0 ≤ 1000000) : Abs.Pure Tryz.prog 21 [.agg [.bool false, .int .i64 (-1), .int .i64 m, .int .i64 0], .str t] (.tup [.agg [.int .i64 (valN t 0), .int .i64 1], .int .i64 0]) := by
  subst hm
  refine Pure.of 0 (CallS.enter numeral_numeral_number_ok (Nat.le_of_ble_eq_true rfl) (Run.go 100 ?_))
  have hi := integer_pure t hB ht hv
  have hk := make1_pure (valN t 0) hv
  have e1 : List.take ((t.length : Int) - 0).toNat t = t := List.take_of_length_le (by omega)
  simp -implicitDefEqProofs only [go_sem, sN, initSl, List.drop_zero, e1]
  refine ⟨by omega, by omega, ?_⟩
  refine CallS.pureF hi (by simp -implicitDefEqProofs only [go_sem, sN]) ?_
  simp -implicitDefEqProofs only [go_sem, sN]
  refine CallS.pureF hk (by simp -implicitDefEqProofs only [go_sem, sN]) ?_
  simp -implicitDefEqProofs only [go_sem, sN]
/-- What numeral.Parse answers at the numeral of an integer. -/
theorem parse_int (n : Int) (h0 : -1000000 ≤ n) (h1 : n ≤ 1000000) : Abs.Pure Tryz.prog 8 [.str (Lib.itoa n)] (.tup [.agg [.int .i64 n, .int .i64 1], .int .i64 0]) := by
  have hlen := itoa_len (n := n) (by omega) (by omega)
  unfold Lib.itoa at hlen ⊢
  by_cases hn : n < 0
  · rw [if_pos hn] at hlen ⊢
    obtain ⟨c, t, hd⟩ : ∃ c t, Lib.decDigits n.natAbs = c :: t := by
      cases hd : Lib.decDigits n.natAbs with
      | nil => exact absurd hd (digits_ne _)
      | cons c t => exact ⟨c, t, rfl⟩
    have hv := valN_dec n.natAbs
    have hg := dec_dig n.natAbs
    rw [hd] at hv hg hlen ⊢
    have ht := ntrim_pure 45 (c :: t) (by simp at hlen ⊢; omega) (fun x hx => by
      rcases List.mem_cons.1 hx with rfl | hx
      · exact .inl rfl
      · exact .inr (hg x hx))
    have hc := cut_yes (c :: t) (by simp at hlen ⊢; omega)
    have hf := find_pure c t (by simp at hlen ⊢; omega) hg
    have hu := number_pure (c :: t) (t.length + 1) rfl (by simp at hlen ⊢; omega) hg (by omega)
    rw [hv] at hu
    refine Pure.of 0 (CallS.enter numeral_Parse_ok (Nat.le_of_ble_eq_true rfl) (Run.go 100 ?_))
    simp -implicitDefEqProofs only [go_sem, sN, initSl]
    refine CallS.pureF ht (by simp -implicitDefEqProofs only [go_sem, sN]) ?_
    simp -implicitDefEqProofs only [go_sem, sN]
    refine CallS.pureF hc (by simp -implicitDefEqProofs only [go_sem, sN]) ?_
    simp -implicitDefEqProofs only [go_sem, sN]
    refine CallS.pureF hf (by simp -implicitDefEqProofs only [go_sem, sN]) ?_
    simp -implicitDefEqProofs only [go_sem, sN]
    refine CallS.pureF hu (by simp -implicitDefEqProofs only [go_sem, sN]) ?_
    simp -implicitDefEqProofs only [go_sem, sN]
    exact ⟨⟨by omega, by omega⟩, by omega⟩
  · rw [if_neg hn] at hlen ⊢
    obtain ⟨c, t, hd⟩ : ∃ c t, Lib.decDigits n.toNat = c :: t := by
      cases hd : Lib.decDigits n.toNat with
      | nil => exact absurd hd (digits_ne _)
      | cons c t => exact ⟨c, t, rfl⟩
    have hv := valN_dec n.toNat
    have hg := dec_dig n.toNat
    rw [hd] at hv hg hlen ⊢
    have ht := ntrim_pure c t (by omega) (fun x hx => .inr (hg x hx))
    have hc := cut_no c t (fun e => by have := hg c List.mem_cons_self; rw [e] at this; exact absurd this (by unfold digC; decide))
    have hf := find_pure c t (by omega) hg
    have hu := number_pure (c :: t) (t.length + 1) rfl (by omega) hg (by omega)
    rw [hv] at hu
    refine Pure.of 0 (CallS.enter numeral_Parse_ok (Nat.le_of_ble_eq_true rfl) (Run.go 100 ?_))
    simp -implicitDefEqProofs only [go_sem, sN, initSl]
    refine CallS.pureF ht (by simp -implicitDefEqProofs only [go_sem, sN]) ?_
    simp -implicitDefEqProofs only [go_sem, sN]
    refine CallS.pureF hc (by simp -implicitDefEqProofs only [go_sem, sN]) ?_
    simp -implicitDefEqProofs only [go_sem, sN]
    refine CallS.pureF hf (by simp -implicitDefEqProofs only [go_sem, sN]) ?_
    simp -implicitDefEqProofs only [go_sem, sN]
    refine CallS.pureF hu (by simp -implicitDefEqProofs only [go_sem, sN]) ?_
    simp -implicitDefEqProofs only [go_sem, sN]
    omega
end Go.Proofs.YtnjbkhidikbeiaaGreatDoor
