/-
  What the reference's 'Put', 'Next' and 'Loops' answer, and the comparison of lists. No condition.
-/
import Derived.Test.YtdnpnbenahpllaaDoorPutT
import Derived.Test.YtdnpnbenahpllaaDoorOpc2
set_option linter.unusedVariables false
set_option linter.unusedSimpArgs false
set_option maxRecDepth 100000
set_option maxHeartbeats 0
namespace Go.Proofs.YtdnpnbenahpllaaDoor
open Go.Abs
attribute [local irreducible] CallS Run
-- EV: Ins.v, Ins.row

theorem put_pure (l : List Int) (hl : Asc l) (hB : l.length ≤ 100000) (r : Int) : Pure Tryd.prog 42 [.isl (l.map zrw), .int .i64 r] (.isl ((insZ l r).map zrw)) := by
  refine Pure.of 1 (CallS.enter scriptingref35_Put_ok (Nat.le_of_ble_eq_true rfl) ?_)
  have hrow : ∀ (k : Nat) (x : Int), l[k]? = some x → (l.map zrw)[k]? = some [.int .i64 x] := fun k x h => zrw_at h
  have hlen : (l.map zrw).length = l.length := List.length_map ..
  have hsz := rowszZ l
  generalize l.map zrw = es at *
  refine Run.go 100 ?_
  simp -implicitDefEqProofs only [go_sem, Ins.v, Ins.row, initSl]
  refine Run.rounds (fun (x : Nat × Nat × Nat) => ⟨[(7, .int .i64 x.1), (6, .bool (doneP l r x.1)), (5, .sl (42 * 10000 + 8) x.2.1 0 (outP l r x.1).length), (1, .int .i64 r), (0, .isl es)], [((42 * 10000 + 8), x.2.1, .rows 1 ((outP l r x.1).map zrw))], x.2.2⟩)
    (fun x => x.1 ≤ l.length) (fun x => l.length - x.1) (0, 0, 1) (by simp -implicitDefEqProofs only [go_sem, Ins.v, Ins.row, outP_zero, doneP, List.take_zero, List.any_nil, List.length_nil, List.map_nil]) (by simp only; omega) ?_
  rintro ⟨k, st, m⟩ hk ih
  simp only at hk ⊢
  have hz : ((k + 1 : Nat) : Int) = (k : Int) + 1 := by omega
  refine Run.unf scriptingref35_Put_l0_eq (Run.go 100 ?_)
  have hol := outP_len l r k
  by_cases c : (k : Int) < l.length
  · obtain ⟨x, hx⟩ : ∃ x, l[k]? = some x := ⟨l[k]'(by omega), by simp⟩
    have hr := hrow k x hx
    have k0 : ((0 : Int) ≤ (k : Int)) = True := eq_true (by omega)
    have k1 : ((k : Int) < (l.length : Int)) = True := eq_true c
    have k2 : (k < l.length) = True := eq_true (by omega)
    have e1 := outP_succ hl (r := r) hx
    have e2 := doneP_succ (r := r) hx
    by_cases hd : doneP l r k = false ∧ r ≤ x
    · rw [if_pos hd] at e1
      obtain ⟨hd1, hd2⟩ := hd
      have d2 : decide (r ≤ x) = true := by simp [hd2]
      rw [hd1, d2] at e2
      have g1 := eq_true hd2
      by_cases e : x = r
      · rw [if_pos e, List.append_nil] at e1
        have g2 := eq_false (fun h : ¬ x = r => h e)
        subst e
        simp -implicitDefEqProofs only [go_sem, Ins.v, Ins.row, hlen, hr, hsz, k0, k1, k2, hd1, Option.some.injEq, forall_eq', Int.le_refl]
        refine ⟨by omega, by omega, ?_⟩
        refine ih _ (k + 1, m, m + 1) (by simp only; omega) (by simp only; omega) ?_
        simp only [hz, e1, e2, List.map_append, List.length_append, List.map_cons, List.map_nil, List.length_cons, List.length_nil, zrw, Bool.false_or]
        simp -implicitDefEqProofs only [go_sem, Ins.v, Ins.row]
      · rw [if_neg e] at e1
        have g2 := eq_false e
        simp -implicitDefEqProofs only [go_sem, Ins.v, Ins.row, hlen, hr, hsz, k0, k1, k2, hd1, g1, g2, Option.some.injEq, forall_eq']
        refine ⟨by omega, by omega, by omega, ?_⟩
        refine ih _ (k + 1, m + 1, m + 1 + 1) (by simp only; omega) (by simp only; omega) ?_
        simp only [hz, e1, e2, List.map_append, List.length_append, List.map_cons, List.map_nil, List.length_cons, List.length_nil, zrw, Bool.false_or]
        simp -implicitDefEqProofs only [go_sem, Ins.v, Ins.row]
        rw [List.take_of_length_le (by simp)]
    · rw [if_neg hd, List.append_nil] at e1
      have hor : doneP l r k = true ∨ ¬ r ≤ x := by
        cases h : doneP l r k with
        | true => exact .inl rfl
        | false => exact .inr fun h2 => hd ⟨h, h2⟩
      have fin : ∀ s, doneP l r (k + 1) = doneP l r k → _ := fun s h => ih s (k + 1, m, m + 1) (by simp only; omega) (by simp only; omega)
      by_cases e : x = r
      · rw [if_pos e, List.append_nil] at e1
        have e3 : doneP l r (k + 1) = doneP l r k := by
          rw [e2]; rcases hor with h | h
          · rw [h]; rfl
          · omega
        rcases hor with h | h
        · subst e
          simp -implicitDefEqProofs only [go_sem, Ins.v, Ins.row, hlen, hr, hsz, k0, k1, k2, h, Option.some.injEq, forall_eq']
          refine ⟨by omega, ?_⟩
          refine ih _ (k + 1, st, m) (by simp only; omega) (by simp only; omega) ?_
          simp only [hz, e1, e3, h]
          simp -implicitDefEqProofs only [go_sem, Ins.v, Ins.row]
        · omega
      · rw [if_neg e] at e1
        have g2 := eq_false e
        cases h : doneP l r k with
        | true =>
          rw [h, Bool.true_or] at e2
          simp -implicitDefEqProofs only [go_sem, Ins.v, Ins.row, hlen, hr, hsz, k0, k1, k2, h, g2, Option.some.injEq, forall_eq']
          refine ⟨by omega, by omega, ?_⟩
          refine ih _ (k + 1, m, m + 1) (by simp only; omega) (by simp only; omega) ?_
          simp only [hz, e1, e2, List.map_append, List.length_append, List.map_cons, List.map_nil, List.length_cons, List.length_nil, zrw]
          simp -implicitDefEqProofs only [go_sem, Ins.v, Ins.row]
        | false =>
          have h1 : ¬ r ≤ x := by rcases hor with h2 | h2; rw [h] at h2; cases h2; exact h2
          have g1 := eq_false h1
          have d2 : decide (r ≤ x) = false := by simp; omega
          rw [h, d2, Bool.or_false] at e2
          simp -implicitDefEqProofs only [go_sem, Ins.v, Ins.row, hlen, hr, hsz, k0, k1, k2, h, g1, g2, Option.some.injEq, forall_eq']
          refine ⟨by omega, by omega, ?_⟩
          refine ih _ (k + 1, m, m + 1) (by simp only; omega) (by simp only; omega) ?_
          simp only [hz, e1, e2, List.map_append, List.length_append, List.map_cons, List.map_nil, List.length_cons, List.length_nil, zrw]
          simp -implicitDefEqProofs only [go_sem, Ins.v, Ins.row]
  · have e : k = l.length := by omega
    subst e
    have k1 : ((l.length : Int) < (l.length : Int)) = False := eq_false (by omega)
    have ha := outP_all l r
    cases h : doneP l r l.length with
    | true =>
      rw [h, if_pos rfl] at ha
      rw [ha]
      simp -implicitDefEqProofs only [go_sem, Ins.v, Ins.row, hlen, k1, h, viewV, List.drop_zero, Nat.zero_add, List.length_map, List.take_length, frzZ, Nat.le_refl]
    | false =>
      rw [h, if_neg (by simp)] at ha
      rw [ha]
      simp -implicitDefEqProofs only [go_sem, Ins.v, Ins.row, hlen, k1, h]
      refine ⟨by omega, ?_⟩
      rw [List.take_of_length_le (by simp), show List.map zrw (outP l r l.length) ++ [[V.int .i64 r]] = (outP l r l.length ++ [r]).map zrw from by simp [zrw]]
      exact frzZ _ _ _
end Go.Proofs.YtdnpnbenahpllaaDoor
