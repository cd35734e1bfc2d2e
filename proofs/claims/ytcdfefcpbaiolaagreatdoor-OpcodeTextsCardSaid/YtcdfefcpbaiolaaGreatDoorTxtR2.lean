/-
  What the reference's 'words' and 'number' answer. No condition.
-/
import Derived.Test.YtcdfefcpbaiolaaGreatDoorTxtR1
import Derived.Test.YtcdfefcpbaiolaaGreatDoorTxt
set_option linter.unusedVariables false
set_option linter.unusedSimpArgs false
set_option maxRecDepth 100000
set_option maxHeartbeats 0
namespace Go.Proofs.YtcdfefcpbaiolaaGreatDoor
open Go Go.Abs
attribute [local irreducible] CallS Run

/-! Words. -/
theorem drop_head {α : Type} {s : List α} {i : Nat} {c : α} (h : s[i]? = some c) : s.drop i = c :: s.drop (i + 1) := by
  have hi := (List.getElem?_eq_some_iff.1 h).1
  rw [List.drop_eq_getElem_cons hi]
  have := (List.getElem?_eq_some_iff.1 h).2
  rw [this]
/-- What is between two places. -/
def cutL (s : List UInt8) (f i : Nat) : List UInt8 := (s.drop f).take (i - f)
theorem cutL_next {s : List UInt8} {f i : Nat} {c : UInt8} (hf : f ≤ i) (h : s[i]? = some c) : cutL s f (i + 1) = cutL s f i ++ [c] := by
  unfold cutL
  rw [show i + 1 - f = (i - f) + 1 by omega, List.take_add_one, List.getElem?_drop, show f + (i - f) = i by omega, h]
  rfl
theorem words_step {s : List UInt8} {f i : Nat} (hf : f ≤ i) (h : s[i]? = some 32) (hn : (32 : UInt8) ∉ cutL s f i) : Lib.split (s.drop f) [32] = cutL s f i :: Lib.split (s.drop (i + 1)) [32] := by
  have e : s.drop f = cutL s f i ++ 32 :: s.drop (i + 1) := by
    rw [← drop_head h]
    unfold cutL
    rw [show s.drop i = (s.drop f).drop (i - f) by rw [List.drop_drop]; congr 1; omega, List.take_append_drop]
  rw [e, split_cons _ hn]
theorem words_end {s : List UInt8} {f : Nat} (hn : (32 : UInt8) ∉ cutL s f s.length) : Lib.split (s.drop f) [32] = [cutL s f s.length] := by
  have e : s.drop f = cutL s f s.length := by
    unfold cutL
    rw [List.take_of_length_le (by rw [List.length_drop]; exact Nat.le_refl _)]
  rw [← e] at hn ⊢
  exact split_one hn

theorem words_pure (s : List UInt8) (hs : s.length ≤ 100000) : Abs.Pure Tryz.prog 21 [.str s] (.isl ((Lib.split s [32]).map fun x => [.str x])) := by
  refine Pure.of 1 (CallS.enter scriptingref32_words_ok (Nat.le_of_ble_eq_true rfl) (Run.go 100 ?_))
  simp -implicitDefEqProofs only [go_sem, initSl]
  refine Run.rounds (fun (x : Nat × Nat × List (List UInt8) × Nat) => ⟨[(5, .int .i64 x.1), (4, .int .i64 x.2.1), (3, .sl (21 * 10000 + 6) x.2.2.2 0 x.2.2.1.length), (0, .str s)], [((21 * 10000 + 6), x.2.2.2, .rows 1 (x.2.2.1.map fun x => [.str x]))], x.2.2.2 + 1⟩)
    (fun x => x.1 ≤ s.length ∧ x.2.1 ≤ x.1 ∧ x.2.2.1.length ≤ x.1 ∧ (32 : UInt8) ∉ cutL s x.2.1 x.1 ∧ Lib.split s [32] = x.2.2.1 ++ Lib.split (s.drop x.2.1) [32] ∨ x.1 = s.length + 1 ∧ x.2.2.1 = Lib.split s [32]) (fun x => s.length + 1 - x.1) (0, 0, [], 0) (by simp -implicitDefEqProofs only [go_sem, List.map_nil, List.length_nil]) (.inl ⟨by simp, by simp, by simp, by simp [cutL], by simp⟩) ?_
  rintro ⟨i, f, ws, m⟩ hJ ih
  simp only at hJ
  refine Run.unf scriptingref32_words_l0_eq (Run.go 100 ?_)
  rcases hJ with ⟨hi, hf, hw, hn, hsp⟩ | ⟨rfl, hw⟩
  case inr =>
    clear ih
    have hc : (((s.length + 1 : Nat) : Int) ≤ (s.length : Int)) = False := eq_false (by omega)
    simp -implicitDefEqProofs only [go_sem, hc]
    rw [hw, List.map_map]
    exact List.map_congr_left fun y _ => by simp [frz, V.sub]
  have hc : ((i : Int) ≤ (s.length : Int)) = True := eq_true (by omega)
  have htk : ∀ j : Nat, (((j : Int) - (f : Int)).toNat) = j - f := fun j => by omega
  by_cases hil : i = s.length
  · subst hil
    simp -implicitDefEqProofs only [go_sem, hc]
    refine ⟨by omega, by omega, by omega, ⟨by omega, by omega⟩, ⟨by omega, by omega⟩, ih _ (s.length + 1, s.length + 1, ws ++ [cutL s f s.length], m + 1) (.inr ⟨rfl, ?_⟩) (by simp only; omega) ?_⟩
    · simp only
      rw [hsp, words_end hn]
    · have hz : ((s.length + 1 : Nat) : Int) = (s.length : Int) + 1 := by omega
      simp only [hz, cutL]
      simp -implicitDefEqProofs only [go_sem, List.map_append, List.map_cons, List.map_nil, List.length_append, List.length_cons, List.length_nil, htk]
  · have hlt : i < s.length := by omega
    have hz : ((i + 1 : Nat) : Int) = (i : Int) + 1 := by omega
    have hne : ((i : Int) = (s.length : Int)) = False := eq_false (by omega)
    have h0 : ((0 : Int) ≤ (i : Int)) = True := eq_true (by omega)
    obtain ⟨c, hcc⟩ : ∃ c, s[i]? = some c := ⟨s[i], by simp [hlt]⟩
    by_cases h32 : c = 32
    · subst h32
      have h32 : (((32 : UInt8).toNat : Int) = 32) = True := eq_true rfl
      simp -implicitDefEqProofs only [go_sem, hc, hne, h0, hcc, h32]
      refine ⟨by omega, by omega, by omega, by omega, ⟨by omega, by omega⟩, ih _ (i + 1, i + 1, ws ++ [cutL s f i], m + 1) (.inl ⟨by simp only; omega, Nat.le_refl _, by simp only [List.length_append, List.length_singleton]; omega, by simp [cutL], ?_⟩) (by simp only; omega) ?_⟩
      · simp only
        rw [hsp, words_step hf hcc hn, List.append_assoc]; rfl
      · simp only [hz, cutL]
        simp -implicitDefEqProofs only [go_sem, List.map_append, List.map_cons, List.map_nil, List.length_append, List.length_cons, List.length_nil, htk]
    · have hn32 : ((c.toNat : Int) = 32) = False := eq_false fun h => h32 (by
        apply UInt8.toNat_inj.1
        have : c.toNat = 32 := by omega
        rw [this]; rfl)
      simp -implicitDefEqProofs only [go_sem, hc, hne, h0, hcc, hn32]
      refine ⟨by omega, ih _ (i + 1, f, ws, m) (.inl ⟨by simp only; omega, by simp only; omega, by simp only; omega, ?_, hsp⟩) (by simp only; omega) ?_⟩
      · simp only
        rw [cutL_next hf hcc]
        intro hm
        rcases List.mem_append.1 hm with h | h
        · exact hn h
        · rw [List.mem_singleton] at h; exact h32 h.symm
      · simp only [hz]
        simp -implicitDefEqProofs only [go_sem]
/-! Numbers. -/
/-- The bytes behind a sign. -/
def tailS (s : List UInt8) : List UInt8 := if s.head? = some 45 then s.tail else s
theorem decD_head (u : Nat) : (Lib.decDigits u).head? ≠ some 45 := by
  intro h
  cases hd : Lib.decDigits u with
  | nil => rw [hd] at h; cases h
  | cons c r =>
    rw [hd] at h
    injection h with h
    have := digits_in u c (by rw [hd]; exact List.mem_cons_self)
    rw [h] at this
    revert this; decide
theorem itoa_eq (m : Int) : Lib.itoa m = (if m < 0 then [45] else []) ++ Lib.decDigits m.natAbs := by
  unfold Lib.itoa
  split
  · rfl
  · rw [List.nil_append]; congr 1; omega
theorem tail_itoa (m : Int) : tailS (Lib.itoa m) = Lib.decDigits m.natAbs := by
  rw [itoa_eq]
  split
  · simp [tailS]
  · rw [List.nil_append, tailS, if_neg (decD_head _)]
theorem tail_len (m : Int) : ((tailS (Lib.itoa m)).length < (Lib.itoa m).length) ↔ m < 0 := by
  rw [tail_itoa, itoa_eq]
  split <;> simp <;> omega
theorem natAbs64 {m : Int} (h : int64 m) : m.natAbs ≤ 9223372036854775808 := by obtain ⟨h1, h2⟩ := h; omega
theorem decD_len64 {m : Int} (h : int64 m) : (Lib.decDigits m.natAbs).length ≤ 19 := digits_len 18 _ (by have := natAbs64 h; omega)
/-- The number that is read, with its sign; both wrap. -/
def numZ (s : List UInt8) : Int := if (tailS s).length < s.length then IntKind.wrap .i64 (0 - IntKind.wrap .i64 (valD 0 (tailS s))) else IntKind.wrap .i64 (valD 0 (tailS s))
theorem wrapI (z : Int) : IntKind.wrap .i64 z = if z % 18446744073709551616 ≥ 9223372036854775808 then z % 18446744073709551616 - 18446744073709551616 else z % 18446744073709551616 := by
  have e1 : IntKind.wrap .i64 z = if (true && decide (z % 18446744073709551616 ≥ 9223372036854775808)) = true then z % 18446744073709551616 - 18446744073709551616 else z % 18446744073709551616 := rfl
  rw [e1]; simp
theorem numZ_in (s : List UInt8) : int64 (numZ s) := by
  have h : ∀ z, int64 (IntKind.wrap .i64 z) := fun z => by
    rw [wrapI]; unfold int64; split <;> omega
  unfold numZ
  split <;> exact h _
theorem numZ_itoa {m : Int} (h : int64 m) : numZ (Lib.itoa m) = m := by
  obtain ⟨h1, h2⟩ := h
  unfold numZ
  rw [tail_itoa, valD_digits]
  have hl := tail_len m
  rw [tail_itoa] at hl
  by_cases c : m < 0
  · rw [if_pos (hl.2 c), wrapI, wrapI]
    split <;> split <;> omega
  · rw [if_neg fun x => c (hl.1 x), wrapI]
    split <;> omega
/-- What 'number' finds, in terms of what is written so. -/
theorem numC_z {s : List UInt8} (h : Lib.itoa (numZ s) = s) : numC s = some (numZ s) := by
  have := numC_itoa (numZ_in s)
  rwa [h] at this
theorem numC_nz {s : List UInt8} (h : Lib.itoa (numZ s) ≠ s) : numC s = none := by
  cases hc : numC s with
  | none => rfl
  | some m =>
    obtain ⟨h1, h2⟩ := numC_some hc
    refine absurd ?_ h
    rw [← h2, numZ_itoa h1]
theorem numC_no {s : List UInt8} (h : ∀ m, int64 m → s ≠ Lib.itoa m) : numC s = none := by
  cases hc : numC s with
  | none => rfl
  | some m =>
    obtain ⟨h1, h2⟩ := numC_some hc
    exact absurd h2.symm (h m h1)
theorem valD_take {t : List UInt8} {i : Nat} {c : UInt8} (h : t[i]? = some c) : valD 0 (t.take (i + 1)) = valD 0 (t.take i) * 10 + (c.toNat - 48) := by
  rw [List.take_add_one, h, Option.toList_some, valD_app, valD_cons, valD_nil]
theorem valD_small {t : List UInt8} : ∀ i, (∀ c ∈ t.take i, 48 ≤ c.toNat ∧ c.toNat ≤ 57) → valD 0 (t.take i) < 10 ^ i
  | 0, _ => by simp [valD_nil]
  | i + 1, h => by
    cases hc : t[i]? with
    | none =>
      have hl := List.getElem?_eq_none_iff.1 hc
      have ih := valD_small (t := t) i fun c hcm => h c (by rw [List.take_of_length_le (by omega)] at hcm ⊢; exact hcm)
      rw [List.take_of_length_le (by omega)] at ih ⊢
      exact Nat.lt_of_lt_of_le ih (Nat.pow_le_pow_right (by omega) (by omega))
    | some c =>
      rw [valD_take hc]
      have ih := valD_small (t := t) i fun c hcm => h c (by rw [List.take_add_one]; exact List.mem_append_left _ hcm)
      have := h c (by rw [List.take_add_one, hc]; simp)
      rw [Nat.pow_succ]
      omega
theorem byte_nat {c : UInt8} {k : Nat} (h : k < 256) : ((c.toNat : Int) = k) = (c = UInt8.ofNat k) := by
  refine propext ⟨fun e => ?_, fun e => ?_⟩
  · apply UInt8.toNat_inj.1
    rw [UInt8.toNat_ofNat']; omega
  · rw [e, UInt8.toNat_ofNat']; omega
/-- All bytes are digits, and no number is too great before the last one. -/
def fineD (t : List UInt8) (i : Nat) (c : UInt8) : Prop := (48 ≤ c.toNat ∧ c.toNat ≤ 57) ∧ valD 0 (t.take i) ≤ 922337203685477580
def fineL (t : List UInt8) : Prop := ∀ i c, t[i]? = some c → fineD t i c
theorem fine_itoa {m : Int} (h : int64 m) : fineL (tailS (Lib.itoa m)) := by
  rw [tail_itoa]
  intro i c hc
  refine ⟨digits_in _ _ (List.mem_of_getElem? hc), ?_⟩
  have h1 := valD_digits m.natAbs
  have hi := (List.getElem?_eq_some_iff.1 hc).1
  rw [← List.take_append_drop i (Lib.decDigits m.natAbs), valD_app] at h1
  have h2 := valD_ge10 (l := (Lib.decDigits m.natAbs).drop i) (by intro e; have := congrArg List.length e; simp at this; omega) (valD 0 ((Lib.decDigits m.natAbs).take i))
  have := natAbs64 h
  omega
theorem number_pure (s : List UInt8) (hs : s.length ≤ 100000) : ∃ z b, Abs.Pure Tryz.prog 24 [.str s] (.tup [.int .i64 z, .bool b]) ∧ (b = true → numC s = some z) ∧ (b = false → numC s = none) := by
  have key : ∀ z b, ((b = true → numC s = some z) ∧ (b = false → numC s = none)) → Abs.Pure Tryz.prog 24 [.str s] (.tup [.int .i64 z, .bool b]) → ∃ z b, Abs.Pure Tryz.prog 24 [.str s] (.tup [.int .i64 z, .bool b]) ∧ (b = true → numC s = some z) ∧ (b = false → numC s = none) := fun z b h1 h2 => ⟨z, b, h2, h1⟩
  have hsign : s = [] ∨ (∃ r, s = 45 :: r) ∨ ∃ c r, s = c :: r ∧ ((c.toNat : Int) = 45) = False ∧ tailS s = s := by
    cases s with
    | nil => exact .inl rfl
    | cons c r =>
      by_cases h : c = 45
      · exact .inr (.inl ⟨r, by rw [h]⟩)
      · refine .inr (.inr ⟨c, r, rfl, eq_false fun e => h ?_, by simp [tailS, h]⟩)
        have := byte_nat (c := c) (k := 45) (by omega)
        rw [show ((45 : Nat) : Int) = 45 from rfl] at this
        rw [this] at e; exact e
  have hd := decimal_pure (numZ s) (numZ_in s)
  by_cases hbad : tailS s = [] ∨ 19 < (tailS s).length
  case pos =>
    refine key 0 false ⟨fun h => (by cases h), fun _ => numC_no fun m hm e => ?_⟩ ?_
    · rw [e, tail_itoa] at hbad
      rcases hbad with h | h
      · exact digits_ne _ h
      · have := decD_len64 hm; omega
    · refine Pure.of 0 (CallS.enter scriptingref32_number_ok (Nat.le_of_ble_eq_true rfl) (Run.go 100 ?_))
      rcases hsign with rfl | ⟨r, rfl⟩ | ⟨c, r, rfl, hc, ht⟩
      · simp -implicitDefEqProofs only [go_sem, initSl]
      · have ht : tailS (45 :: r) = r := by simp [tailS]
        rw [ht] at hbad
        have h45 : (((45 : UInt8).toNat : Int) = 45) = True := eq_true rfl
        rcases hbad with rfl | hl
        · simp -implicitDefEqProofs only [go_sem, initSl, h45]
        · have hl' : ((19 : Int) < (r.length : Int)) = True := eq_true (by omega)
          have hne : (r = []) = False := eq_false fun e => by rw [e] at hl; simp at hl
          have htk : List.take ((((r.length + 1 : Nat) : Int) - 1).toNat) r = r := List.take_of_length_le (by omega)
          simp -implicitDefEqProofs only [go_sem, initSl, h45, hl', hne, htk]
          exact ⟨by omega, Int.le_refl _⟩
      · rw [ht] at hbad
        have hl' : ((19 : Int) < ((r.length + 1 : Nat) : Int)) = True := eq_true (by rcases hbad with h | h; cases h; simp at h; omega)
        simp -implicitDefEqProofs only [go_sem, initSl, hc, hl']
  have ht0 : tailS s ≠ [] := fun h => hbad (.inl h)
  have ht19 : (tailS s).length ≤ 19 := by omega
  clear hbad
  obtain ⟨zb, hz1, hz2⟩ : ∃ zb : Int × Bool, (fineL (tailS s) → zb = (numZ s, decide (Lib.itoa (numZ s) = s))) ∧ (¬ fineL (tailS s) → zb = (0, false)) := by
    by_cases h : fineL (tailS s)
    · exact ⟨_, fun _ => rfl, fun h2 => absurd h h2⟩
    · exact ⟨_, fun h2 => absurd h2 h, fun _ => rfl⟩
  refine key zb.1 zb.2 ?_ ?_
  · by_cases h : fineL (tailS s)
    · rw [hz1 h]
      exact ⟨fun hb => numC_z (of_decide_eq_true hb), fun hb => numC_nz (of_decide_eq_false hb)⟩
    · rw [hz2 h]
      exact ⟨fun hb => (by cases hb), fun _ => numC_no fun m hm e => h (e ▸ fine_itoa hm)⟩
  clear key
  refine Pure.of 0 (CallS.enter scriptingref32_number_ok (Nat.le_of_ble_eq_true rfl) (Run.go 100 ?_))
  have hlt : (tailS s).length < s.length ∨ ¬ (tailS s).length < s.length := Classical.em _
  have hnz : numZ s = if (tailS s).length < s.length then IntKind.wrap .i64 (0 - IntKind.wrap .i64 (valD 0 (tailS s))) else IntKind.wrap .i64 (valD 0 (tailS s)) := rfl
  have hw0 : IntKind.wrap .i64 0 = 0 := by decide
  have hwr : ∀ v : Nat, v < 1000000000000000000 → IntKind.wrap .i64 (v : Int) = (v : Int) := fun v h => by rw [wrapI]; split <;> omega
  rcases hsign with rfl | ⟨r, rfl⟩ | ⟨c, r, rfl, hc, ht⟩
  · exact absurd rfl ht0
  have ht : tailS (45 :: r) = r := by simp [tailS]
  have htk : List.take ((((r.length + 1 : Nat) : Int) - 1).toNat) r = r := List.take_of_length_le (by omega)
  have h45 : (((45 : UInt8).toNat : Int) = 45) = True := eq_true rfl
  have hl' : ((19 : Int) < (r.length : Int)) = False := eq_false (by rw [ht] at ht19; omega)
  have hne : (r = []) = False := eq_false (by rw [ht] at ht0; exact ht0)
  simp -implicitDefEqProofs only [go_sem, initSl, h45, hl', hne, htk]
  refine ⟨by omega, Int.le_refl _, ?_⟩
  clear htk hl' hne
  generalize hs0 : (45 :: r : List UInt8) = s at *
  subst ht
  clear hs0
  rotate_left
  have hl' : ((19 : Int) < ((r.length + 1 : Nat) : Int)) = False := eq_false (by rw [ht] at ht19; simp at ht19; omega)
  simp -implicitDefEqProofs only [go_sem, initSl, hc, hl']
  clear hl' hc
  generalize hs0 : (c :: r : List UInt8) = s at *
  clear hs0
  rotate_left
  all_goals
    refine Run.rounds (fun (i : Nat) => ⟨[(6, .int .i64 i), (5, .int .i64 (IntKind.wrap .i64 (valD 0 ((tailS s).take i)))), (4, .str (tailS s)), (0, .str s)], [], 0⟩)
      (fun i => i ≤ (tailS s).length ∧ ∀ j c, j < i → (tailS s)[j]? = some c → fineD (tailS s) j c) (fun i => (tailS s).length - i) 0 (by first | (simp -implicitDefEqProofs only [go_sem, List.take_zero, valD_nil, hw0]; done) | (simp -implicitDefEqProofs only [go_sem, List.take_zero, valD_nil, hw0, ht]; done)) ⟨Nat.zero_le _, fun j c h => by omega⟩ ?_
    rintro i ⟨hi, hfine⟩ ih
    have hval : ∀ j, j ≤ i → valD 0 ((tailS s).take j) < 10 ^ j := fun j hj => valD_small j fun c hc => by
      obtain ⟨q, hq⟩ := List.mem_iff_getElem?.1 hc
      rw [List.getElem?_take] at hq
      split at hq
      · exact (hfine q c (by omega) hq).1
      · cases hq
    refine Run.unf scriptingref32_number_l0_eq (Run.go 100 ?_)
    by_cases hend : i = (tailS s).length
    · clear ih hval
      have hall : fineL (tailS s) := fun j c hc => hfine j c (by rw [hend]; exact (List.getElem?_eq_some_iff.1 hc).1) hc
      have hc1 : ((i : Int) < ((tailS s).length : Int)) = False := eq_false (by omega)
      rw [hz1 hall]
      have hz : numZ s = if (tailS s).length < s.length then IntKind.wrap .i64 (0 - IntKind.wrap .i64 (valD 0 ((tailS s).take i))) else IntKind.wrap .i64 (valD 0 ((tailS s).take i)) := by
        rw [hend, List.take_length]; exact hnz
      generalize numZ s = nz at *
      rcases hlt with hlt | hlt
      · have hlt' : (((tailS s).length : Int) < (s.length : Int)) = True := eq_true (by omega)
        rw [if_pos hlt] at hz
        simp -implicitDefEqProofs only [go_sem, hc1, hlt']
        rw [← hz]
        refine CallS.pureF hd (by simp -implicitDefEqProofs only [go_sem]) ?_
        simp -implicitDefEqProofs only [go_sem]
      · have hlt' : (((tailS s).length : Int) < (s.length : Int)) = False := eq_false (by omega)
        rw [if_neg hlt] at hz
        simp -implicitDefEqProofs only [go_sem, hc1, hlt']
        rw [← hz]
        refine CallS.pureF hd (by simp -implicitDefEqProofs only [go_sem]) ?_
        simp -implicitDefEqProofs only [go_sem]
    · have hil : i < (tailS s).length := by omega
      obtain ⟨c, hcc⟩ : ∃ c, (tailS s)[i]? = some c := ⟨(tailS s)[i], by simp [hil]⟩
      have hc1 : ((i : Int) < ((tailS s).length : Int)) = True := eq_true (by omega)
      have h0 : ((0 : Int) ≤ (i : Int)) = True := eq_true (by omega)
      have hvi := hval i (Nat.le_refl _)
      have h18 : 10 ^ i ≤ 10 ^ 18 := Nat.pow_le_pow_right (by omega) (by omega)
      have hvt := valD_take hcc
      generalize hv : valD 0 ((tailS s).take i) = v at *
      have hwv := hwr v (by omega)
      rw [hwv]
      by_cases hf : fineD (tailS s) i c
      · obtain ⟨⟨c1, c2⟩, c3⟩ := hf
        rw [hv] at c3
        have f1 : ((c.toNat : Int) < 48) = False := eq_false (by omega)
        have f2 : ((57 : Int) < (c.toNat : Int)) = False := eq_false (by omega)
        have f3 : ((922337203685477580 : Int) < (v : Int)) = False := eq_false (by omega)
        have w8 : IntKind.wrap .i64 (IntKind.wrap .u8 ((c.toNat : Int) - 48)) = ((c.toNat - 48 : Nat) : Int) := by
          have e : IntKind.wrap .u8 ((c.toNat : Int) - 48) = ((c.toNat : Int) - 48) % 256 := rfl
          rw [e, wrapI]; split <;> omega
        have hz : ((i + 1 : Nat) : Int) = (i : Int) + 1 := by omega
        simp -implicitDefEqProofs only [go_sem, hc1, h0, hcc, f1, f2, f3, w8]
        refine ⟨by omega, ⟨by omega, by omega⟩, ih _ (i + 1) ⟨by omega, fun j c' hj hc' => ?_⟩ (by omega) ?_⟩
        · by_cases e : j = i
          · subst e
            rw [hcc] at hc'; injection hc' with hc'
            subst hc'
            exact ⟨⟨c1, c2⟩, by rw [hv]; exact c3⟩
          · exact hfine j c' (by omega) hc'
        · simp only [hz, hvt]
          have e : ((v * 10 + (c.toNat - 48) : Nat) : Int) = (v : Int) * 10 + ((c.toNat - 48 : Nat) : Int) := by omega
          simp only [e]
          simp -implicitDefEqProofs only [go_sem]
      · have hno : ¬ fineL (tailS s) := fun h => hf (h i c hcc)
        rw [hz2 hno]
        clear ih
        by_cases c1 : c.toNat < 48
        · have f1 : ((c.toNat : Int) < 48) = True := eq_true (by omega)
          simp -implicitDefEqProofs only [go_sem, hc1, h0, hcc, f1]
        · have f1 : ((c.toNat : Int) < 48) = False := eq_false (by omega)
          by_cases c2 : 57 < c.toNat
          · have f2 : ((57 : Int) < (c.toNat : Int)) = True := eq_true (by omega)
            simp -implicitDefEqProofs only [go_sem, hc1, h0, hcc, f1, f2]
          · have f2 : ((57 : Int) < (c.toNat : Int)) = False := eq_false (by omega)
            have f3 : ((922337203685477580 : Int) < (v : Int)) = True := eq_true (by
              have : ¬ v ≤ 922337203685477580 := fun h => hf ⟨⟨by omega, by omega⟩, by rw [hv]; exact h⟩
              omega)
            simp -implicitDefEqProofs only [go_sem, hc1, h0, hcc, f1, f2, f3]
end Go.Proofs.YtcdfefcpbaiolaaGreatDoor
