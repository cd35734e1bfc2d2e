/-
  What the reference's 'Base' and 'Decimal' answer for the base 10. No condition.
-/
import Derived.Test.YtcdfefcpbaiolaaGreatDoorTxtR0
import Derived.Test.YtcdfefcpbaiolaaGreatDoorCode
set_option linter.unusedVariables false
set_option linter.unusedSimpArgs false
set_option maxRecDepth 100000
set_option maxHeartbeats 0
namespace Go.Proofs.YtcdfefcpbaiolaaGreatDoor
open Go Go.Abs
attribute [local irreducible] CallS Run

def dC (u : Nat) : UInt8 := UInt8.ofNat (48 + u % 10)
def dL (u : Nat) : List UInt8 := if u = 0 then [] else Lib.decDigits u
theorem decD_step (u : Nat) : Lib.decDigits u = dL (u / 10) ++ [dC u] := by
  rw [Lib.decDigits]
  by_cases h : u < 10
  · rw [dif_pos h, dL, if_pos (by omega), dC, Nat.mod_eq_of_lt h]; rfl
  · rw [dif_neg h, dL, if_neg (by omega)]; rfl
def names10 : List UInt8 := [48, 49, 50, 51, 52, 53, 54, 55, 56, 57, 97, 98, 99, 100, 101, 102, 103, 104, 105, 106, 107, 108, 109, 110, 111, 112, 113, 114, 115, 116, 117, 118, 119, 120, 121, 122]
theorem names_at (u : Nat) : names10[((u : Int).tmod 10).toNat]? = some (dC u) := by
  have e : ((u : Int).tmod 10).toNat = u % 10 := by
    have : (u : Int).tmod 10 = ((u % 10 : Nat) : Int) := by
      rw [Int.tmod_eq_emod_of_nonneg (by omega)]; omega
    rw [this, Int.toNat_natCast]
  rw [e]
  have h : ∀ k : Nat, k < 10 → names10[k]? = some (UInt8.ofNat (48 + k)) := by decide
  exact h _ (Nat.mod_lt _ (by omega))
theorem wrapU (z : Int) : IntKind.wrap .u64 z = z % 18446744073709551616 := rfl
theorem strRows_app (l : List UInt8) (c : UInt8) : strRows l ++ [[.int .u8 (c.toNat : Int)]] = strRows (l ++ [c]) := by simp [strRows]
theorem strRows_len (l : List UInt8) : (strRows l).length = l.length := by simp [strRows]
theorem strRows_sz (l : List UInt8) : rowsz (strRows l) 1 := fun r hr => by
  obtain ⟨b, _, rfl⟩ := List.mem_map.1 hr; rfl
theorem strRows_at {l : List UInt8} {i : Nat} {c : UInt8} (h : l[i]? = some c) : (strRows l)[i]? = some [.int .u8 (c.toNat : Int)] := by
  unfold strRows; rw [List.getElem?_map, h]; rfl

theorem bstV_map (s : List UInt8) : bstV (some (s.map fun b => [V.int .u8 (b.toNat : Int)])) = some (.str s) := bstV_strRows
theorem base_pure (n : Int) (hn : int64 n) : Abs.Pure Tryz.prog 49 [.int .i64 n, .int .i64 10] (.tup [.str (Lib.itoa n), .int .i64 0]) := by
  refine Pure.of 0 (CallS.enter scriptingref02_Base_ok (Nat.le_of_ble_eq_true rfl) (Run.go 100 ?_))
  obtain ⟨hn1, hn2⟩ := hn
  have e0 : Lib.itoa n = (if n < 0 then [45] else []) ++ Lib.decDigits n.natAbs := by
    unfold Lib.itoa
    split
    · rfl
    · rw [List.nil_append]; congr 1; omega
  have hu64 : n.natAbs < 18446744073709551616 := by omega
  have w1 : n < 0 → IntKind.wrap .u64 (0 - IntKind.wrap .u64 n) = (n.natAbs : Int) := fun h => by rw [wrapU, wrapU]; omega
  have w2 : ¬ n < 0 → IntKind.wrap .u64 n = (n.natAbs : Int) := fun h => by rw [wrapU]; omega
  have wten : IntKind.wrap .u64 10 = 10 := by decide
  have hsg : n.natAbs ≤ 9223372036854775808 := by omega
  have hD : (Lib.decDigits n.natAbs).length ≤ 20 := digits_len 19 _ (by omega)
  simp -implicitDefEqProofs only [go_sem, initSl]
  refine ⟨fun h => ?_, fun h => ?_⟩
  all_goals
    first | rw [w1 h] | rw [w2 h]
    have hd := h
    first | replace hd := eq_false hd | replace hd := eq_true hd
    generalize n.natAbs = u0 at *
    refine Run.rounds (fun (x : Nat × List UInt8 × Nat) => ⟨[(8, .sl (49 * 10000 + 23) x.2.2 0 x.2.1.length), (7, .str names10), (6, .int .u64 x.1), (1, .int .i64 10), (0, .int .i64 n)], [((49 * 10000 + 23), x.2.2, .rows 1 (strRows x.2.1))], x.2.2 + 1⟩)
      (fun x => x.1 ≤ u0 ∧ (x.2.1 = [] → x.1 = u0) ∧ Lib.decDigits u0 = (if x.2.1 = [] then Lib.decDigits x.1 else dL x.1) ++ x.2.1.reverse) (fun x => 2 * x.1 + (if x.2.1 = [] then 1 else 0)) (u0, [], 0) (by simp -implicitDefEqProofs only [go_sem, strRows, List.map_nil, List.length_nil, names10]) ⟨Nat.le_refl _, fun _ => rfl, by simp⟩ ?_
    rintro ⟨u, acc, m⟩ ⟨hu, hacc, hdig⟩ ih
    simp only at hu hacc hdig
    have hlen : acc.length ≤ 20 := by
      have := congrArg List.length hdig
      rw [List.length_append, List.length_reverse] at this
      omega
    have hnm := names_at u
    refine Run.unf scriptingref02_Base_l0_eq (Run.go 100 ?_)
    have hc2 : ((u : Int) > 0) = (u > 0) := by simp
    by_cases hfin : u = 0 ∧ acc ≠ []
    · obtain ⟨rfl, hne⟩ := hfin
      have hl0 : ((acc.length : Int) = 0) = False := eq_false (fun h => hne (List.eq_nil_of_length_eq_zero (by omega)))
      clear ih
      rw [if_neg hne, dL, if_pos rfl, List.nil_append] at hdig
      have ho : Lib.itoa n = (if n < 0 then acc ++ [45] else acc).reverse := by
        rw [e0, hdig]
        split <;> simp
      simp -implicitDefEqProofs only [go_sem, hl0, hd]
      first
        | (refine ⟨by omega, ⟨by omega, by omega⟩, ?_⟩
           have hes : (acc.map fun b => [V.int .u8 (b.toNat : Int)]) ++ [[.int .u8 45]] = strRows (acc ++ [45]) := by simp [strRows]
           have hl : acc.length + 1 = (acc ++ [45]).length := by simp
           rw [hes, hl]
           rw [if_pos h] at ho
           have hlen := show (acc ++ [45]).length ≤ 21 by simp; omega
           rw [ho]
           clear hdig hacc hne hl0 hes hl ho
           generalize acc ++ [45] = l at *
           generalize hst : m + 1 = st8)
        | (refine ⟨⟨by omega, by omega⟩, ?_⟩
           have hes : (acc.map fun b => [V.int .u8 (b.toNat : Int)]) = strRows acc := rfl
           rw [hes]
           rw [if_neg h] at ho
           have hlen : acc.length ≤ 21 := by omega
           rw [ho]
           clear hdig hacc hne hl0 hes ho
           generalize acc = l at *
           generalize hst : m = st8)
      all_goals
        generalize hes : strRows l = es
        have hrow : ∀ (k : Nat) (c : UInt8), l[k]? = some c → es[k]? = some [.int .u8 (c.toNat : Int)] := fun k c hk => hes ▸ strRows_at hk
        have hsz : es.length = l.length := by rw [← hes]; exact strRows_len l
        clear hes
        refine Run.rounds (fun (x : Nat × List UInt8 × Nat) => ⟨[(10, .int .i64 ((x.1 : Int) - 1)), (9, .sl (49 * 10000 + 49) x.2.2 0 x.2.1.length), (8, .sl (49 * 10000 + 23) st8 0 l.length)], [((49 * 10000 + 49), x.2.2, .rows 1 (strRows x.2.1)), ((49 * 10000 + 23), st8, .rows 1 es)], x.2.2 + 1⟩)
          (fun x => x.1 ≤ l.length ∧ x.2.1 = (l.drop x.1).reverse) (fun x => x.1) (l.length, [], st8 + 1) (by simp -implicitDefEqProofs only [go_sem, strRows, List.map_nil, List.length_nil]) ⟨Nat.le_refl _, by simp⟩ ?_
        rintro ⟨k, out, m2⟩ ⟨hk, hout⟩ ih2
        simp only at hk hout
        refine Run.unf scriptingref02_Base_l1_eq (Run.go 100 ?_)
        cases k with
        | zero =>
          clear ih2
          rw [List.drop_zero] at hout
          have hb := bstV_map out
          simp -implicitDefEqProofs only [go_sem, hb]
          rw [hout]
        | succ j =>
          have hj : j < l.length := by omega
          obtain ⟨c, hc⟩ : ∃ c, l[j]? = some c := ⟨l[j], by simp [hj]⟩
          have hr := hrow j c hc
          have hz : (((j + 1 : Nat) : Int) - 1) = (j : Int) := by omega
          have hz0 : ((0 : Int) ≤ (j : Int)) = True := eq_true (by omega)
          have hz1 : ((j : Int) < (l.length : Int)) = True := eq_true (by omega)
          have hol : out.length ≤ 21 := by rw [hout]; simp; omega
          simp only [hz]
          simp -implicitDefEqProofs only [go_sem, hz0, hz1, hr, Option.some.injEq, forall_eq']
          refine ⟨by omega, by omega, ⟨by omega, by omega⟩, ih2 _ (j, out ++ [c], m2 + 1) ⟨by simp only; omega, ?_⟩ (by simp only; omega) ?_⟩
          · simp only
            rw [hout]
            rw [List.drop_eq_getElem_cons (by omega : j < l.length)]
            have : l[j] = c := by rw [List.getElem?_eq_getElem hj] at hc; injection hc
            rw [this, List.reverse_cons]
          · simp -implicitDefEqProofs only [go_sem, List.map_append, List.map_cons, List.map_nil, List.length_append, List.length_cons, List.length_nil]
    · have hstep := decD_step u
      have hw : IntKind.wrap .u64 ((u : Int).tdiv 10) = ((u / 10 : Nat) : Int) := by
        have : (u : Int).tdiv 10 = ((u / 10 : Nat) : Int) := by rw [Int.tdiv_eq_ediv_of_nonneg (by omega)]; omega
        rw [this, wrapU]; omega
      have hm0 : ((0 : Int) ≤ (u : Int).tmod 10) = True := eq_true (Int.tmod_nonneg _ (by omega))
      have hnext : Lib.decDigits u0 = (if acc ++ [dC u] = [] then Lib.decDigits (u / 10) else dL (u / 10)) ++ (acc ++ [dC u]).reverse := by
        rw [if_neg (by simp), List.reverse_append, hdig]
        have : (if acc = [] then Lib.decDigits u else dL u) = Lib.decDigits u := by
          split
          · rfl
          · rename_i hne
            rw [dL, if_neg fun h => hfin ⟨h, hne⟩]
        rw [this, hstep]; simp
      have hup : ((0 : Int) < (u : Int)) = True ∨ (((0 : Int) < (u : Int)) = False ∧ acc = []) := by
        by_cases h : u = 0
        · exact .inr ⟨eq_false (by omega), Decidable.byContradiction fun hne => hfin ⟨h, hne⟩⟩
        · exact .inl (eq_true (by omega))
      have hmu : 2 * (u / 10) + (if acc ++ [dC u] = [] then 1 else 0) < 2 * u + (if acc = [] then 1 else 0) := by
        rw [if_neg (by simp)]
        by_cases h : u = 0
        · have : acc = [] := Decidable.byContradiction fun hne => hfin ⟨h, hne⟩
          rw [if_pos this]; omega
        · omega
      have fin := fun s hw => ih s (u / 10, acc ++ [dC u], m + 1) ⟨by simp only; omega, by simp, hnext⟩ hmu hw
      clear ih
      rcases hup with hup | ⟨hup, rfl⟩
      · simp -implicitDefEqProofs only [go_sem, hup, wten, hm0, hnm, hw]
        refine ⟨by omega, fin _ ?_⟩
        simp -implicitDefEqProofs only [go_sem, List.map_append, List.map_cons, List.map_nil, List.length_append, List.length_cons, List.length_nil]
      · simp -implicitDefEqProofs only [go_sem, hup, wten, hm0, hnm, hw]
        refine fin _ ?_
        simp -implicitDefEqProofs only [go_sem, List.map_append, List.map_cons, List.map_nil, List.length_append, List.length_cons, List.length_nil, List.nil_append]
theorem decimal_pure (n : Int) (hn : int64 n) : Abs.Pure Tryz.prog 28 [.int .i64 n] (.str (Lib.itoa n)) := by
  have h := base_pure n hn
  refine Pure.of 0 (CallS.enter scriptingref02_Decimal_ok (Nat.le_of_ble_eq_true rfl) (Run.go 100 ?_))
  simp -implicitDefEqProofs only [go_sem, initSl]
  refine CallS.pureF h (by simp -implicitDefEqProofs only [go_sem]) ?_
  simp -implicitDefEqProofs only [go_sem]
end Go.Proofs.YtcdfefcpbaiolaaGreatDoor
