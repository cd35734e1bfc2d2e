/-
  What the reference's 'put', 'set', 'span' and 'open' answer. No condition.
-/
import Derived.Test.YtabdlpfhfmeppaaGreatDoorPutT
import Derived.Test.YtabdlpfhfmeppaaGreatDoorRwM
import Derived.Test.YtabdlpfhfmeppaaGreatDoorOpc5
set_option linter.unusedVariables false
set_option linter.unusedSimpArgs false
set_option maxRecDepth 100000
set_option maxHeartbeats 0
namespace Go.Proofs.YtabdlpfhfmeppaaGreatDoor
open Go.Abs
attribute [local irreducible] CallS Run
-- EV: Ins.v, Ins.row
theorem rput_pure (l : List Int) (hl : Asc l) (hB : l.length ≤ 100000) (r : Int) : Pure Tryz.prog 111 [.isl (l.map zrw), .int .i64 r] (.isl ((insZ l r).map zrw)) := by
  refine Pure.of 1 (CallS.enter scriptingref32_put_ok (Nat.le_of_ble_eq_true rfl) ?_)
  have hrow : ∀ (k : Nat) (x : Int), l[k]? = some x → (l.map zrw)[k]? = some [.int .i64 x] := fun k x h => zrw_at h
  have hlen : (l.map zrw).length = l.length := List.length_map ..
  have hsz := rowszZ l
  generalize l.map zrw = es at *
  refine Run.go 100 ?_
  simp -implicitDefEqProofs only [go_sem, Ins.v, Ins.row, initSl]
  refine Run.rounds (fun (x : Nat × Nat × Nat) => ⟨[(7, .int .i64 x.1), (6, .bool (doneP l r x.1)), (5, .sl (111 * 10000 + 8) x.2.1 0 (outP l r x.1).length), (1, .int .i64 r), (0, .isl es)], [((111 * 10000 + 8), x.2.1, .rows 1 ((outP l r x.1).map zrw))], x.2.2⟩)
    (fun x => x.1 ≤ l.length) (fun x => l.length - x.1) (0, 0, 1) (by simp -implicitDefEqProofs only [go_sem, Ins.v, Ins.row, outP_zero, doneP, List.take_zero, List.any_nil, List.length_nil, List.map_nil]) (by simp only; omega) ?_
  rintro ⟨k, st, m⟩ hk ih
  simp only at hk ⊢
  have hz : ((k + 1 : Nat) : Int) = (k : Int) + 1 := by omega
  refine Run.unf scriptingref32_put_l0_eq (Run.go 100 ?_)
  have hol := outP_len l r k
  by_cases c : (k : Int) < l.length
  · obtain ⟨x, hx⟩ : ∃ x, l[k]? = some x := ⟨l[k]'(by omega), by simp⟩
    have hr := hrow k x hx
    have k0 : ((0 : Int) ≤ (k : Int)) = True := eq_true (by omega)
    have k1 : ((k : Int) < (l.length : Int)) = True := eq_true c
    have k2 : (k < l.length) = True := eq_true (by omega)
    have e1 := outP_succ hl (r := r) hx
    have e2 := doneP_succ (r := r) hx
    by_cases hd : doneP l r k = false ∧ r ≤ x
    · rw [if_pos hd] at e1
      obtain ⟨hd1, hd2⟩ := hd
      have d2 : decide (r ≤ x) = true := by simp [hd2]
      rw [hd1, d2] at e2
      have g1 := eq_true hd2
      by_cases e : x = r
      · rw [if_pos e, List.append_nil] at e1
        have g2 := eq_false (fun h : ¬ x = r => h e)
        subst e
        simp -implicitDefEqProofs only [go_sem, Ins.v, Ins.row, hlen, hr, hsz, k0, k1, k2, hd1, Option.some.injEq, forall_eq', Int.le_refl]
        refine ⟨by omega, by omega, ?_⟩
        refine ih _ (k + 1, m, m + 1) (by simp only; omega) (by simp only; omega) ?_
        simp only [hz, e1, e2, List.map_append, List.length_append, List.map_cons, List.map_nil, List.length_cons, List.length_nil, zrw, Bool.false_or]
        simp -implicitDefEqProofs only [go_sem, Ins.v, Ins.row]
      · rw [if_neg e] at e1
        have g2 := eq_false e
        simp -implicitDefEqProofs only [go_sem, Ins.v, Ins.row, hlen, hr, hsz, k0, k1, k2, hd1, g1, g2, Option.some.injEq, forall_eq']
        refine ⟨by omega, by omega, by omega, ?_⟩
        refine ih _ (k + 1, m + 1, m + 1 + 1) (by simp only; omega) (by simp only; omega) ?_
        simp only [hz, e1, e2, List.map_append, List.length_append, List.map_cons, List.map_nil, List.length_cons, List.length_nil, zrw, Bool.false_or]
        simp -implicitDefEqProofs only [go_sem, Ins.v, Ins.row]
        rw [List.take_of_length_le (by simp)]
    · rw [if_neg hd, List.append_nil] at e1
      have hor : doneP l r k = true ∨ ¬ r ≤ x := by
        cases h : doneP l r k with
        | true => exact .inl rfl
        | false => exact .inr fun h2 => hd ⟨h, h2⟩
      have fin : ∀ s, doneP l r (k + 1) = doneP l r k → _ := fun s h => ih s (k + 1, m, m + 1) (by simp only; omega) (by simp only; omega)
      by_cases e : x = r
      · rw [if_pos e, List.append_nil] at e1
        have e3 : doneP l r (k + 1) = doneP l r k := by
          rw [e2]; rcases hor with h | h
          · rw [h]; rfl
          · omega
        rcases hor with h | h
        · subst e
          simp -implicitDefEqProofs only [go_sem, Ins.v, Ins.row, hlen, hr, hsz, k0, k1, k2, h, Option.some.injEq, forall_eq']
          refine ⟨by omega, ?_⟩
          refine ih _ (k + 1, st, m) (by simp only; omega) (by simp only; omega) ?_
          simp only [hz, e1, e3, h]
          simp -implicitDefEqProofs only [go_sem, Ins.v, Ins.row]
        · omega
      · rw [if_neg e] at e1
        have g2 := eq_false e
        cases h : doneP l r k with
        | true =>
          rw [h, Bool.true_or] at e2
          simp -implicitDefEqProofs only [go_sem, Ins.v, Ins.row, hlen, hr, hsz, k0, k1, k2, h, g2, Option.some.injEq, forall_eq']
          refine ⟨by omega, by omega, ?_⟩
          refine ih _ (k + 1, m, m + 1) (by simp only; omega) (by simp only; omega) ?_
          simp only [hz, e1, e2, List.map_append, List.length_append, List.map_cons, List.map_nil, List.length_cons, List.length_nil, zrw]
          simp -implicitDefEqProofs only [go_sem, Ins.v, Ins.row]
        | false =>
          have h1 : ¬ r ≤ x := by rcases hor with h2 | h2; rw [h] at h2; cases h2; exact h2
          have g1 := eq_false h1
          have d2 : decide (r ≤ x) = false := by simp; omega
          rw [h, d2, Bool.or_false] at e2
          simp -implicitDefEqProofs only [go_sem, Ins.v, Ins.row, hlen, hr, hsz, k0, k1, k2, h, g1, g2, Option.some.injEq, forall_eq']
          refine ⟨by omega, by omega, ?_⟩
          refine ih _ (k + 1, m, m + 1) (by simp only; omega) (by simp only; omega) ?_
          simp only [hz, e1, e2, List.map_append, List.length_append, List.map_cons, List.map_nil, List.length_cons, List.length_nil, zrw]
          simp -implicitDefEqProofs only [go_sem, Ins.v, Ins.row]
  · have e : k = l.length := by omega
    subst e
    have k1 : ((l.length : Int) < (l.length : Int)) = False := eq_false (by omega)
    have ha := outP_all l r
    cases h : doneP l r l.length with
    | true =>
      rw [h, if_pos rfl] at ha
      rw [ha]
      simp -implicitDefEqProofs only [go_sem, Ins.v, Ins.row, hlen, k1, h, viewV, List.drop_zero, Nat.zero_add, List.length_map, List.take_length, frzZ, Nat.le_refl]
    | false =>
      rw [h, if_neg (by simp)] at ha
      rw [ha]
      simp -implicitDefEqProofs only [go_sem, Ins.v, Ins.row, hlen, k1, h]
      refine ⟨by omega, ?_⟩
      rw [List.take_of_length_le (by simp), show List.map zrw (outP l r l.length) ++ [[V.int .i64 r]] = (outP l r l.length ++ [r]).map zrw from by simp [zrw]]
      exact frzZ _ _ _
theorem normZ_le (l : List Int) : (normZ l).length ≤ l.length := Nat.le_trans (Lib.compact_length_le _) (by simp [sortZ])
theorem rset_pure (l : List Int) (hB : l.length ≤ 1000) : Pure Tryz.prog 97 [.isl (l.map zrw)] (.isl ((normZ l).map zrw)) := by
  refine Pure.of 1 (CallS.enter scriptingref32_set_ok (Nat.le_of_ble_eq_true rfl) ?_)
  have hrow : ∀ (k : Nat) (x : Int), l[k]? = some x → (l.map zrw)[k]? = some [.int .i64 x] := fun k x h => zrw_at h
  have hlen : (l.map zrw).length = l.length := List.length_map ..
  have hsz := rowszZ l
  generalize l.map zrw = es at *
  refine Run.go 100 ?_
  simp -implicitDefEqProofs only [go_sem, Ins.v, Ins.row, initSl]
  refine Run.keep [4, 3, 0] ?_
  refine Run.roundsK (fun (x : Nat) => ⟨[(4, .int .i64 x), (3, .isl ((normZ (l.take x)).map zrw)), (0, .isl es)], [], 1⟩) (fun x => x ≤ l.length) (fun x => l.length - x) 0 ?_ (Nat.zero_le _) ?_
  · refine .turn id ⟨.refl _, ?_, .refl _, trivial⟩ trivial
    rw [List.take_zero, normZ_nil]
    exact SameV.slI
  rintro k hk ih
  refine Run.unf scriptingref32_set_l0_eq (Run.go 100 ?_)
  by_cases hlt : k < l.length
  · have q0 : ((k : Int) < (l.length : Int)) = True := eq_true (by omega)
    have q1 : ((0 : Int) ≤ (k : Int)) = True := eq_true (by omega)
    obtain ⟨x, hx⟩ : ∃ x, l[k]? = some x := ⟨l[k], by simp [hlt]⟩
    have hxr := hrow k x hx
    have hzk : ((k + 1 : Nat) : Int) = (k : Int) + 1 := by omega
    have hnl : (normZ (l.take k)).length ≤ 100000 := by
      have := Nat.le_trans (normZ_le (l.take k)) (List.length_take_le k l); omega
    have hp := rput_pure (normZ (l.take k)) (asc_normZ _) hnl x
    have he : insZ (normZ (l.take k)) x = normZ (l.take (k + 1)) := by rw [insZ_normZ, List.take_add_one, hx]; rfl
    rw [he] at hp
    have f1 : ((normZ (l.take k)).map zrw).map (fun r => r.map (V.sub lost)) = (normZ (l.take k)).map zrw := subZ' _
    have f2 := fun d h => frzZ d h (normZ (l.take (k + 1)))
    generalize (normZ (l.take k)).map zrw = rs at *
    simp -implicitDefEqProofs only [go_sem, Ins.v, Ins.row, q0, q1, hlen, hsz, hxr, hlt, Option.some.injEq, forall_eq']
    refine CallS.pureF hp (by simp -implicitDefEqProofs only [go_sem, Ins.v, Ins.row, f1]) ?_
    simp -implicitDefEqProofs only [go_sem, Ins.v, Ins.row]
    refine ⟨by omega, ?_⟩
    exact ih _ (k + 1) (by omega) (by omega) (Weak.wk (by simp -implicitDefEqProofs only [go_sem, Ins.v, Ins.row, hzk]))
  have e : k = l.length := by omega
  subst e
  rw [List.take_length]
  simp -implicitDefEqProofs only [go_sem, Ins.v, Ins.row, Int.lt_irrefl, hlen]
  exact frzZ _ _ _
theorem rspan_call (l : List Int) (a n : Int) (hB : l.length ≤ 1000) (ha : -100000 ≤ a ∧ a ≤ 100000) (hn : n ≤ 100000) (b st n0 : Nat) : CallS Tryz.prog 99 [.sl b st 0 l.length, .int .i64 a, .int .i64 n] [(b, st, .rows 1 (l.map zrw))] n0 fun r h' _ => ∃ s', r = .sl b s' 0 (l ++ spanN a n.toNat).length ∧ h' = [(b, s', .rows 1 ((l ++ spanN a n.toNat).map zrw))] := by
  refine CallS.enterK scriptingref32_span_ok (Nat.le_of_ble_eq_true rfl) fun Q hQ => Run.go 100 ?_
  simp -implicitDefEqProofs only [go_sem, Ins.v, Ins.row, initSl]
  refine Run.keep [7, 2, 1, 0] ?_
  refine Run.rounds (fun (x : Nat × Nat × Nat) => ⟨[(7, .int .i64 x.1), (2, .int .i64 n), (1, .int .i64 a), (0, .sl b x.2.1 0 (l ++ spanN a x.1).length)], [(b, x.2.1, .rows 1 ((l ++ spanN a x.1).map zrw))], x.2.2⟩)
      (fun x => x.1 ≤ n.toNat) (fun x => n.toNat - x.1) (0, st, n0) (by simp -implicitDefEqProofs only [go_sem, Ins.v, Ins.row, spanN_zero, List.append_nil]) (by simp only; omega) ?_
  rintro ⟨k, st, m⟩ hk ih
  simp only at hk ih ⊢
  have hz : ((k + 1 : Nat) : Int) = (k : Int) + 1 := by omega
  have hl := spanN_len a k
  have hll : (l ++ spanN a k).length = l.length + k := by simp [hl]
  have hns : (l ++ spanN a (k + 1)).map zrw = (l ++ spanN a k).map zrw ++ [[.int .i64 (a + k)]] := by rw [spanN_succ]; simp [zrw]
  have hnl : (l ++ spanN a (k + 1)).length = (l ++ spanN a k).length + 1 := by rw [spanN_succ]; simp; try omega
  have hml : ((l ++ spanN a k).map zrw).length = (l ++ spanN a k).length := List.length_map ..
  refine Run.unf scriptingref32_span_l0_eq (Run.go 100 ?_)
  by_cases c : (k : Int) < n
  · have fin := fun s => ih s (k + 1, m, m + 1) (by simp only; omega) (by simp only; omega)
    clear ih
    simp only [hz, hns, hnl] at fin
    generalize (l ++ spanN a k).map zrw = es at *
    generalize (l ++ spanN a k).length = el at *
    simp -implicitDefEqProofs only [go_sem, Ins.v, Ins.row, c]
    have hte : es.take el = es := List.take_of_length_le (by omega)
    rw [hte]
    exact ⟨by omega, by omega, by omega, by omega, fin _ (by simp -implicitDefEqProofs only [go_sem, Ins.v, Ins.row])⟩
  · have e : k = n.toNat := by omega
    subst e
    have hte : ((l ++ spanN a n.toNat).map zrw).take (l ++ spanN a n.toNat).length = (l ++ spanN a n.toNat).map zrw := List.take_of_length_le (by rw [hml]; exact Nat.le_refl _)
    generalize (l ++ spanN a n.toNat).map zrw = es at *
    simp -implicitDefEqProofs only [go_sem, Ins.v, Ins.row, c]
    subst hQ
    exact .is ⟨st, by rw [List.length_append], rfl⟩
theorem rspan_nil (a n : Int) (ha : -100000 ≤ a ∧ a ≤ 100000) (hn : n ≤ 100000) (n0 : Nat) : CallS Tryz.prog 99 [.nils, .int .i64 a, .int .i64 n] [] n0 fun r h' _ => r = .isl ((spanN a n.toNat).map zrw) ∧ h' = [] := by
  refine CallS.enterK scriptingref32_span_ok (Nat.le_of_ble_eq_true rfl) fun Q hQ => Run.go 100 ?_
  simp -implicitDefEqProofs only [go_sem, Ins.v, Ins.row, initSl]
  refine Run.roundsK (fun (x : Nat × Nat × Nat) => ⟨[(7, .int .i64 x.1), (2, .int .i64 n), (1, .int .i64 a), (0, .sl (99 * 10000 + 18) x.2.1 0 (spanN a x.1).length)], [((99 * 10000 + 18), x.2.1, .rows 1 ((spanN a x.1).map zrw))], x.2.2⟩)
      (fun x => x.1 ≤ n.toNat) (fun x => n.toNat - x.1) (0, n0, n0 + 1) ?_ (by simp only; omega) ?_
  · refine .trans (.fresh (99 * 10000 + 18) 1 _ _ _) (.turn id ?_ (.at 0 rfl rfl (.refl _) trivial))
    exact ⟨.refl _, .refl _, .refl _, .nils, trivial⟩
  rintro ⟨k, st, m⟩ hk ih
  simp only at hk ih ⊢
  have hz : ((k + 1 : Nat) : Int) = (k : Int) + 1 := by omega
  have hl := spanN_len a k
  have hll : (spanN a k).length = k := by simp [hl]
  have hns : (spanN a (k + 1)).map zrw = (spanN a k).map zrw ++ [[.int .i64 (a + k)]] := by rw [spanN_succ]; simp [zrw]
  have hnl : (spanN a (k + 1)).length = (spanN a k).length + 1 := by rw [spanN_succ]; simp; try omega
  have hml : ((spanN a k).map zrw).length = (spanN a k).length := List.length_map ..
  refine Run.unf scriptingref32_span_l0_eq (Run.go 100 ?_)
  by_cases c : (k : Int) < n
  · have fin := fun s => ih s (k + 1, m, m + 1) (by simp only; omega) (by simp only; omega)
    clear ih
    simp only [hz, hns, hnl] at fin
    generalize (spanN a k).map zrw = es at *
    generalize (spanN a k).length = el at *
    simp -implicitDefEqProofs only [go_sem, Ins.v, Ins.row, c]
    have hte : es.take el = es := List.take_of_length_le (by omega)
    rw [hte]
    exact ⟨by omega, by omega, by omega, by omega, fin _ (Weak.wk (by simp -implicitDefEqProofs only [go_sem, Ins.v, Ins.row]))⟩
  · have e : k = n.toNat := by omega
    subst e
    have hte : ((spanN a n.toNat).map zrw).take (spanN a n.toNat).length = (spanN a n.toNat).map zrw := List.take_of_length_le (by rw [hml]; exact Nat.le_refl _)
    simp -implicitDefEqProofs only [go_sem, Ins.v, Ins.row, c]
    subst hQ
    exact .to (r2 := .isl _) (n2 := m) ⟨rfl, rfl⟩ (.freeze (b := (99 * 10000 + 18)) (st := st) (sz := 1) (rs := (spanN a n.toNat).map zrw) List.mem_cons_self ⟨Frz.all (by simp [hl]), trivial⟩ trivial)
theorem ropen_call (a0 a n : Int) (ha : -100000 ≤ a ∧ a ≤ 100000) (hn : n ≤ 100000) (b st n0 : Nat) : CallS Tryz.prog 98 [.sl b st 0 1, .int .i64 a, .int .i64 n] [(b, st, .rows 1 ([a0].map zrw))] n0 fun r h' _ => ∃ s', r = .tup [.sl b s' 0 (a0 :: (spanP a n).1).length, .int .i64 (spanP a n).2] ∧ h' = [(b, s', .rows 1 ((a0 :: (spanP a n).1).map zrw))] := by
  have hs := rspan_call [a0] a n (by simp) ha hn b st
  refine CallS.enterK scriptingref32_open_ok (Nat.le_of_ble_eq_true rfl) fun Q hQ => Run.go 100 ?_
  by_cases h : n < 0
  · rw [spanP_neg h] at hQ
    simp -implicitDefEqProofs only [go_sem, Ins.v, Ins.row, initSl, h]
    subst hQ
    exact .is ⟨st, rfl, rfl⟩
  · rw [spanP_pos h] at hQ
    simp -implicitDefEqProofs only [go_sem, Ins.v, Ins.row, initSl, h]
    refine CallS.at [0] [] (hs _) rfl rfl ?_
    rintro r h' n' hn ⟨s', rfl, rfl⟩
    simp -implicitDefEqProofs only [go_sem, Ins.v, Ins.row]
    subst hQ
    exact .is ⟨s', rfl, rfl⟩
theorem SameV.tupN {x : V} : SameV (.tup [.nils, x]) (.tup [.isl [], x]) := fun E y h => by
  cases h with
  | tup _ vs hl hR =>
    refine .tup _ vs hl fun i c v hc hv => ?_
    match i with
    | 0 =>
      cases hc
      have := hR 0 .nils v rfl hv
      cases this
      exact .isl0 _ _
    | i + 1 => exact hR (i + 1) c v hc hv
theorem ropen_nil (a n : Int) (ha : -100000 ≤ a ∧ a ≤ 100000) (hn : n ≤ 100000) (n0 : Nat) : CallS Tryz.prog 98 [.nils, .int .i64 a, .int .i64 n] [] n0 fun r h' _ => r = .tup [.isl ((spanP a n).1.map zrw), .int .i64 (spanP a n).2] ∧ h' = [] := by
  have hs := rspan_nil a n ha hn
  refine CallS.enterK scriptingref32_open_ok (Nat.le_of_ble_eq_true rfl) fun Q hQ => Run.go 100 ?_
  by_cases h : n < 0
  · rw [spanP_neg h] at hQ
    simp -implicitDefEqProofs only [go_sem, Ins.v, Ins.row, initSl, h]
    subst hQ
    exact .to (r2 := .tup [.isl [], .int .i64 a]) (n2 := n0) ⟨rfl, rfl⟩ (.turn id ⟨SameV.tupN, trivial⟩ trivial)
  · rw [spanP_pos h] at hQ
    simp -implicitDefEqProofs only [go_sem, Ins.v, Ins.row, initSl, h]
    refine CallS.at [] [] (hs _) rfl rfl ?_
    rintro r h' n' hn ⟨rfl, rfl⟩
    simp -implicitDefEqProofs only [go_sem, Ins.v, Ins.row]
    subst hQ
    exact .is ⟨rfl, rfl⟩
-- EV: Ins.v, Ins.row
theorem rset_call (zs : List Int) (hB : zs.length ≤ 1000) (b st n : Nat) : CallS Tryz.prog 97 [.sl b st 0 zs.length] [(b, st, .rows 1 (zs.map zrw))] n fun r h' _ => r = .isl ((normZ zs).map zrw) ∧ h' = [] :=
  CallS.pre (xs' := [.isl (zs.map zrw)]) (h' := []) (n' := n) (.freeze (b := b) (st := st) (sz := 1) (rs := zs.map zrw) List.mem_cons_self ⟨Frz.all (List.length_map ..).symm, trivial⟩ trivial) rfl
    (CallS.pureF (rset_pure zs hB) (by simp only [List.map_cons, List.map_nil, V.sub, subLL_map, subZ']) ⟨rfl, rfl⟩)
theorem normZ_three (a : Int) : normZ [a, a + 1, a + 2] = spanN a 3 := by
  have e : spanN a 3 = [a, a + 1, a + 2] := by simp [spanN, List.range_succ]
  rw [← e]; exact normZ_asc (asc_spanN a 3)
theorem normZ_two' (a b : Int) (h : a < b) : normZ [a, b] = [a, b] := by rw [normZ_two, if_neg (by omega), if_pos h]
theorem rreads_pure (i : Ins) : Pure Tryz.prog 75 [i.v] (.tup [.isl ((reads i).1.map zrw), .int .i64 (reads i).2]) := by
  refine Pure.of 1 (CallS.enter scriptingref32_Reads_ok (Nat.le_of_ble_eq_true rfl) ?_)
  refine Run.go 100 ?_
  simp -implicitDefEqProofs only [go_sem, Ins.v, Ins.row, initSl]
  refine CallS.pureF (rcheck_pure i) (by simp -implicitDefEqProofs only [go_sem, Ins.v, Ins.row]) ?_
  by_cases hc : chk i = 0
  rotate_left
  · rw [show reads i = ([], -1) from if_neg hc]
    simp -implicitDefEqProofs only [go_sem, Ins.v, Ins.row, hc, List.map_nil]
  · rw [show reads i = rds i from if_pos hc, hc]
    have h0 := chk_ok hc
    simp -implicitDefEqProofs only [go_sem, Ins.v, Ins.row]
    repeat' (first | refine And.intro ?_ ?_ | refine fun h => ?_)
    all_goals first
      | omega
      | (simp [rds, zrw, *]; done)
      | (rw [show rds i = (normZ [i.b], -1) by simp [rds, normZ_one, *]]
         refine CallS.at [0] [] (rset_call [i.b] (by simp) _ _ _) rfl rfl ?_
         rintro r h' n' hn ⟨rfl, rfl⟩
         simp -implicitDefEqProofs only [go_sem, Ins.v, Ins.row, frzZ]
         done)
      | (rw [show rds i = (normZ [i.a], -1) by simp [rds, normZ_one, *]]
         refine CallS.at [0] [] (rset_call [i.a] (by simp) _ _ _) rfl rfl ?_
         rintro r h' n' hn ⟨rfl, rfl⟩
         simp -implicitDefEqProofs only [go_sem, Ins.v, Ins.row, frzZ]
         done)
      | (rw [show rds i = (normZ [i.a + 3], -1) by simp [rds, normZ_one, *]]
         refine CallS.at [0] [] (rset_call [i.a + 3] (by simp) _ _ _) rfl rfl ?_
         rintro r h' n' hn ⟨rfl, rfl⟩
         simp -implicitDefEqProofs only [go_sem, Ins.v, Ins.row, frzZ]
         done)
      | (rw [show rds i = (normZ [i.b, i.c], -1) by simp [rds, *]]
         refine CallS.at [0] [] (rset_call [i.b, i.c] (by simp) _ _ _) rfl rfl ?_
         rintro r h' n' hn ⟨rfl, rfl⟩
         simp -implicitDefEqProofs only [go_sem, Ins.v, Ins.row, frzZ]
         done)
      | (rw [show rds i = (normZ [i.a, i.b, i.c], -1) by simp [rds, *]]
         refine CallS.at [0] [] (rset_call [i.a, i.b, i.c] (by simp) _ _ _) rfl rfl ?_
         rintro r h' n' hn ⟨rfl, rfl⟩
         simp -implicitDefEqProofs only [go_sem, Ins.v, Ins.row, frzZ]
         done)
      | (rw [show rds i = (normZ [i.a, i.a + 1, i.a + 2], -1) by (rw [normZ_three]; simp [rds, spanP, *])]
         refine CallS.at [0] [] (rset_call [i.a, i.a + 1, i.a + 2] (by simp) _ _ _) rfl rfl ?_
         rintro r h' n' hn ⟨rfl, rfl⟩
         simp -implicitDefEqProofs only [go_sem, Ins.v, Ins.row, frzZ]
         done)
      | (rw [show rds i = (i.a :: (spanP (i.a + 1) i.b).1, (spanP (i.a + 1) i.b).2) by simp [rds, *]]
         refine CallS.at [0] [] (ropen_call i.a (i.a + 1) i.b ⟨by omega, by omega⟩ (by omega) _ _ _) rfl rfl ?_
         rintro r h' n' hn ⟨s', rfl, rfl⟩
         simp -implicitDefEqProofs only [go_sem, Ins.v, Ins.row]
         exact ⟨rfl, frzZ _ _ _⟩)
      | (rw [show rds i = spanP (i.a) i.b by simp [rds, *]]
         refine CallS.at [] [] (ropen_nil (i.a) i.b ⟨by omega, by omega⟩ (by omega) _) rfl rfl ?_
         rintro r h' n' hn ⟨rfl, rfl⟩
         simp -implicitDefEqProofs only [go_sem, Ins.v, Ins.row, frzZ]
         done)
theorem rwrites_pure (i : Ins) : Pure Tryz.prog 76 [i.v] (.tup [.isl ((writes i).1.map zrw), .int .i64 (writes i).2]) := by
  refine Pure.of 1 (CallS.enter scriptingref32_Writes_ok (Nat.le_of_ble_eq_true rfl) ?_)
  refine Run.go 100 ?_
  simp -implicitDefEqProofs only [go_sem, Ins.v, Ins.row, initSl]
  refine CallS.pureF (rcheck_pure i) (by simp -implicitDefEqProofs only [go_sem, Ins.v, Ins.row]) ?_
  by_cases hc : chk i = 0
  rotate_left
  · rw [show writes i = ([], -1) from if_neg hc]
    simp -implicitDefEqProofs only [go_sem, Ins.v, Ins.row, hc, List.map_nil]
  · rw [show writes i = wrs i from if_pos hc, hc]
    have h0 := chk_ok hc
    have h1 := chk_fits hc
    simp -implicitDefEqProofs only [go_sem, Ins.v, Ins.row]
    repeat' (first | refine And.intro ?_ ?_ | refine fun h => ?_)
    all_goals first
      | omega
      | (simp [wrs, zrw, *]; done)
      | (rw [show wrs i = (normZ [i.a], -1) by simp [wrs, normZ_one, *]]
         refine CallS.at [0] [] (rset_call [i.a] (by simp) _ _ _) rfl rfl ?_
         rintro r h' n' hn ⟨rfl, rfl⟩
         simp -implicitDefEqProofs only [go_sem, Ins.v, Ins.row, frzZ]
         done)
      | (rw [show wrs i = (normZ [i.a + 3], -1) by simp [wrs, normZ_one, *]]
         refine CallS.at [0] [] (rset_call [i.a + 3] (by simp) _ _ _) rfl rfl ?_
         rintro r h' n' hn ⟨rfl, rfl⟩
         simp -implicitDefEqProofs only [go_sem, Ins.v, Ins.row, frzZ]
         done)
      | (rw [show wrs i = (normZ [i.a + 2], -1) by simp [wrs, normZ_one, *]]
         refine CallS.at [0] [] (rset_call [i.a + 2] (by simp) _ _ _) rfl rfl ?_
         rintro r h' n' hn ⟨rfl, rfl⟩
         simp -implicitDefEqProofs only [go_sem, Ins.v, Ins.row, frzZ]
         done)
      | (rw [show wrs i = (normZ [i.a, i.a + 1], -1) by (rw [normZ_two' _ _ (by omega)]; simp [wrs, *])]
         refine CallS.at [0] [] (rset_call [i.a, i.a + 1] (by simp) _ _ _) rfl rfl ?_
         rintro r h' n' hn ⟨rfl, rfl⟩
         simp -implicitDefEqProofs only [go_sem, Ins.v, Ins.row, frzZ]
         done)
      | (rw [show wrs i = (normZ [i.a, i.a + 3], -1) by (rw [normZ_two' _ _ (by omega)]; simp [wrs, *])]
         refine CallS.at [0] [] (rset_call [i.a, i.a + 3] (by simp) _ _ _) rfl rfl ?_
         rintro r h' n' hn ⟨rfl, rfl⟩
         simp -implicitDefEqProofs only [go_sem, Ins.v, Ins.row, frzZ]
         done)
      | (rw [show wrs i = (spanN (i.a) (i.b - i.a + 1).toNat, -1) by simp [wrs, *]; exact spanP_pos (by omega)]
         refine CallS.at [] [] (rspan_nil (i.a) (i.b - i.a + 1) ⟨by omega, by omega⟩ (by omega) _) rfl rfl ?_
         rintro r h' n' hn ⟨rfl, rfl⟩
         simp -implicitDefEqProofs only [go_sem, Ins.v, Ins.row, frzZ]
         done)
      | (rw [show wrs i = (spanN (i.a + 3) (i.c).toNat, -1) by simp [wrs, *]; exact spanP_pos (by omega)]
         refine CallS.at [] [] (rspan_nil (i.a + 3) (i.c) ⟨by omega, by omega⟩ (by omega) _) rfl rfl ?_
         rintro r h' n' hn ⟨rfl, rfl⟩
         simp -implicitDefEqProofs only [go_sem, Ins.v, Ins.row, frzZ]
         done)
      | (rw [show wrs i = spanP (i.a) (i.c) by simp [wrs, *]]
         refine CallS.at [] [] (ropen_nil (i.a) (i.c) ⟨by omega, by omega⟩ (by omega) _) rfl rfl ?_
         rintro r h' n' hn ⟨rfl, rfl⟩
         simp -implicitDefEqProofs only [go_sem, Ins.v, Ins.row, frzZ]
         done)
      | (rw [show wrs i = spanP (i.a) (i.b) by simp [wrs, *]]
         refine CallS.at [] [] (ropen_nil (i.a) (i.b) ⟨by omega, by omega⟩ (by omega) _) rfl rfl ?_
         rintro r h' n' hn ⟨rfl, rfl⟩
         simp -implicitDefEqProofs only [go_sem, Ins.v, Ins.row, frzZ]
         done)
end Go.Proofs.YtabdlpfhfmeppaaGreatDoor
