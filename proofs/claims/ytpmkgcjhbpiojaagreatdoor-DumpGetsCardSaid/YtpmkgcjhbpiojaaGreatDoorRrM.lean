/-
 What the reference's 'put', 'set', 'span' and 'open' answer. No condition.
-/
import Derived.Test.YtpmkgcjhbpiojaaGreatDoorPutT
import Derived.Test.YtpmkgcjhbpiojaaGreatDoorRwM
import Derived.Test.YtpmkgcjhbpiojaaGreatDoorOpc5
set_option linter.unusedVariables false
set_option linter.unusedSimpArgs false
set_option maxRecDepth 100000
set_option maxHeartbeats 0
namespace Go.Proofs.YtpmkgcjhbpiojaaGreatDoor
open Go.Abs
attribute [local irreducible] A3 Run
-- EV: Ins.v, Ins.row
theorem B9T (l : List Int) (hl : Asc l) (hB : l.length ≤ 100000) (r : Int) : Pure Tryz.prog 114 [.isl (l.map zrw), .int .i64 r] (.isl ((B4b l r).map zrw)) := by
 refine Pure.of 1 (A3.enter A0v (Nat.le_of_ble_eq_true rfl) ?_)
 have hrow : ∀ (k : Nat) (x : Int), l[k]? = some x → (l.map zrw)[k]? = some [.int .i64 x] := fun k x h => B6S h
 have hlen : (l.map zrw).length = l.length := List.length_map ..
 have hsz := B6L l
 generalize l.map zrw = es at *
 refine Run.go 100 ?_
 simp -implicitDefEqProofs only [go_sem, Ins.v, Ins.row, A8]
 refine Run.rounds (fun (x : Nat × Nat × Nat) => ⟨[(7, .int .i64 x.1), (6, .bool (Q7 l r x.1)), (5, .sl (114 * 10000 + 8) x.2.1 0 (A8Y l r x.1).length), (1, .int .i64 r), (0, .isl es)], [((114 * 10000 + 8), x.2.1, .rows 1 ((A8Y l r x.1).map zrw))], x.2.2⟩)
  (fun x => x.1 ≤ l.length) (fun x => l.length - x.1) (0, 0, 1) (by simp -implicitDefEqProofs only [go_sem, Ins.v, Ins.row, B9s, Q7, List.take_zero, List.any_nil, List.length_nil, List.map_nil]) (by simp only; omega) ?_
 rintro ⟨k, st, m⟩ hk ih
 simp only at hk ⊢
 have hz : ((k + 1 : Nat) : Int) = (k : Int) + 1 := by omega
 refine Run.unf A3z (Run.go 100 ?_)
 have hol := C2w l r k
 by_cases c : (k : Int) < l.length
 ·obtain ⟨x, hx⟩ : ∃ x, l[k]? = some x := ⟨l[k]'(by omega), by simp⟩
  have hr := hrow k x hx
  have k0 : ((0 : Int) ≤ (k : Int)) = True := eq_true (by omega)
  have k1 : ((k : Int) < (l.length : Int)) = True := eq_true c
  have k2 : (k < l.length) = True := eq_true (by omega)
  have e1 := C0p hl (r := r) hx
  have e2 := B1z (r := r) hx
  by_cases hd : Q7 l r k = false ∧ r ≤ x
  ·rw [if_pos hd] at e1
   obtain ⟨hd1, hd2⟩ := hd
   have d2 : decide (r ≤ x) = true := by simp [hd2]
   rw [hd1, d2] at e2
   have g1 := eq_true hd2
   by_cases e : x = r
   ·rw [if_pos e, List.append_nil] at e1
    have g2 := eq_false (fun h : ¬ x = r => h e)
    subst e
    simp -implicitDefEqProofs only [go_sem, Ins.v, Ins.row, hlen, hr, hsz, k0, k1, k2, hd1, Option.some.injEq, forall_eq', Int.le_refl]
    refine ⟨by omega, by omega, ?_⟩
    refine ih _ (k + 1, m, m + 1) (by simp only; omega) (by simp only; omega) ?_
    simp only [hz, e1, e2, List.map_append, List.length_append, List.map_cons, List.map_nil, List.length_cons, List.length_nil, zrw, Bool.false_or]
    simp -implicitDefEqProofs only [go_sem, Ins.v, Ins.row]
   ·rw [if_neg e] at e1
    have g2 := eq_false e
    simp -implicitDefEqProofs only [go_sem, Ins.v, Ins.row, hlen, hr, hsz, k0, k1, k2, hd1, g1, g2, Option.some.injEq, forall_eq']
    refine ⟨by omega, by omega, by omega, ?_⟩
    refine ih _ (k + 1, m + 1, m + 1 + 1) (by simp only; omega) (by simp only; omega) ?_
    simp only [hz, e1, e2, List.map_append, List.length_append, List.map_cons, List.map_nil, List.length_cons, List.length_nil, zrw, Bool.false_or]
    simp -implicitDefEqProofs only [go_sem, Ins.v, Ins.row]
    rw [List.take_of_length_le (by simp)]
  ·rw [if_neg hd, List.append_nil] at e1
   have hor : Q7 l r k = true ∨ ¬ r ≤ x := by
    cases h : Q7 l r k with
    | true => exact .inl rfl
    | false => exact .inr fun h2 => hd ⟨h, h2⟩
   have fin : ∀ s, Q7 l r (k + 1) = Q7 l r k → _ := fun s h => ih s (k + 1, m, m + 1) (by simp only; omega) (by simp only; omega)
   by_cases e : x = r
   ·rw [if_pos e, List.append_nil] at e1
    have e3 : Q7 l r (k + 1) = Q7 l r k := by
     rw [e2]; rcases hor with h | h
     ·rw [h]; rfl
     ·omega
    rcases hor with h | h
    ·subst e
     simp -implicitDefEqProofs only [go_sem, Ins.v, Ins.row, hlen, hr, hsz, k0, k1, k2, h, Option.some.injEq, forall_eq']
     refine ⟨by omega, ?_⟩
     refine ih _ (k + 1, st, m) (by simp only; omega) (by simp only; omega) ?_
     simp only [hz, e1, e3, h]
     simp -implicitDefEqProofs only [go_sem, Ins.v, Ins.row]
    ·omega
   ·rw [if_neg e] at e1
    have g2 := eq_false e
    cases h : Q7 l r k with
    | true =>
     rw [h, Bool.true_or] at e2
     simp -implicitDefEqProofs only [go_sem, Ins.v, Ins.row, hlen, hr, hsz, k0, k1, k2, h, g2, Option.some.injEq, forall_eq']
     refine ⟨by omega, by omega, ?_⟩
     refine ih _ (k + 1, m, m + 1) (by simp only; omega) (by simp only; omega) ?_
     simp only [hz, e1, e2, List.map_append, List.length_append, List.map_cons, List.map_nil, List.length_cons, List.length_nil, zrw]
     simp -implicitDefEqProofs only [go_sem, Ins.v, Ins.row]
    | false =>
     have h1 : ¬ r ≤ x := by rcases hor with h2 | h2; rw [h] at h2; cases h2; exact h2
     have g1 := eq_false h1
     have d2 : decide (r ≤ x) = false := by simp; omega
     rw [h, d2, Bool.or_false] at e2
     simp -implicitDefEqProofs only [go_sem, Ins.v, Ins.row, hlen, hr, hsz, k0, k1, k2, h, g1, g2, Option.some.injEq, forall_eq']
     refine ⟨by omega, by omega, ?_⟩
     refine ih _ (k + 1, m, m + 1) (by simp only; omega) (by simp only; omega) ?_
     simp only [hz, e1, e2, List.map_append, List.length_append, List.map_cons, List.map_nil, List.length_cons, List.length_nil, zrw]
     simp -implicitDefEqProofs only [go_sem, Ins.v, Ins.row]
 ·have e : k = l.length := by omega
  subst e
  have k1 : ((l.length : Int) < (l.length : Int)) = False := eq_false (by omega)
  have ha := C1l l r
  cases h : Q7 l r l.length with
  | true =>
   rw [h, if_pos rfl] at ha
   rw [ha]
   simp -implicitDefEqProofs only [go_sem, Ins.v, Ins.row, hlen, k1, h, A0H, List.drop_zero, Nat.zero_add, List.length_map, List.take_length, V1, Nat.le_refl]
  | false =>
   rw [h, if_neg (by simp)] at ha
   rw [ha]
   simp -implicitDefEqProofs only [go_sem, Ins.v, Ins.row, hlen, k1, h]
   refine ⟨by omega, ?_⟩
   rw [List.take_of_length_le (by simp), show List.map zrw (A8Y l r l.length) ++ [[V.int .i64 r]] = (A8Y l r l.length ++ [r]).map zrw from by simp [zrw]]
   exact V1 _ _ _
theorem C1d (l : List Int) : (D6 l).length ≤ l.length := Nat.le_trans (Lib.compact_length_le _) (by simp [A2O])
theorem C0n (l : List Int) (hB : l.length ≤ 1000) : Pure Tryz.prog 100 [.isl (l.map zrw)] (.isl ((D6 l).map zrw)) := by
 refine Pure.of 1 (A3.enter A0C (Nat.le_of_ble_eq_true rfl) ?_)
 have hrow : ∀ (k : Nat) (x : Int), l[k]? = some x → (l.map zrw)[k]? = some [.int .i64 x] := fun k x h => B6S h
 have hlen : (l.map zrw).length = l.length := List.length_map ..
 have hsz := B6L l
 generalize l.map zrw = es at *
 refine Run.go 100 ?_
 simp -implicitDefEqProofs only [go_sem, Ins.v, Ins.row, A8]
 refine Run.keep [4, 3, 0] ?_
 refine Run.roundsK (fun (x : Nat) => ⟨[(4, .int .i64 x), (3, .isl ((D6 (l.take x)).map zrw)), (0, .isl es)], [], 1⟩) (fun x => x ≤ l.length) (fun x => l.length - x) 0 ?_ (Nat.zero_le _) ?_
 ·refine .turn id ⟨.refl _, ?_, .refl _, trivial⟩ trivial
  rw [List.take_zero, C0F]
  exact F5.slI
 rintro k hk ih
 refine Run.unf A3C (Run.go 100 ?_)
 by_cases hlt : k < l.length
 ·have q0 : ((k : Int) < (l.length : Int)) = True := eq_true (by omega)
  have q1 : ((0 : Int) ≤ (k : Int)) = True := eq_true (by omega)
  obtain ⟨x, hx⟩ : ∃ x, l[k]? = some x := ⟨l[k], by simp [hlt]⟩
  have hxr := hrow k x hx
  have hzk : ((k + 1 : Nat) : Int) = (k : Int) + 1 := by omega
  have hnl : (D6 (l.take k)).length ≤ 100000 := by
   have := Nat.le_trans (C1d (l.take k)) (List.length_take_le k l); omega
  have hp := B9T (D6 (l.take k)) (A4s _) hnl x
  have he : B4b (D6 (l.take k)) x = D6 (l.take (k + 1)) := by rw [B7J, List.take_add_one, hx]; rfl
  rw [he] at hp
  have f1 : ((D6 (l.take k)).map zrw).map (fun r => r.map (V.sub R4)) = (D6 (l.take k)).map zrw := B2h _
  have f2 := fun d h => V1 d h (D6 (l.take (k + 1)))
  generalize (D6 (l.take k)).map zrw = rs at *
  simp -implicitDefEqProofs only [go_sem, Ins.v, Ins.row, q0, q1, hlen, hsz, hxr, hlt, Option.some.injEq, forall_eq']
  refine A3.pureF hp (by simp -implicitDefEqProofs only [go_sem, Ins.v, Ins.row, f1]) ?_
  simp -implicitDefEqProofs only [go_sem, Ins.v, Ins.row]
  refine ⟨by omega, ?_⟩
  exact ih _ (k + 1) (by omega) (by omega) (m9.wk (by simp -implicitDefEqProofs only [go_sem, Ins.v, Ins.row, hzk]))
 have e : k = l.length := by omega
 subst e
 rw [List.take_length]
 simp -implicitDefEqProofs only [go_sem, Ins.v, Ins.row, Int.lt_irrefl, hlen]
 exact V1 _ _ _
theorem B7s (l : List Int) (a n : Int) (hB : l.length ≤ 1000) (ha : -100000 ≤ a ∧ a ≤ 100000) (hn : n ≤ 100000) (b st n0 : Nat) : A3 Tryz.prog 102 [.sl b st 0 l.length, .int .i64 a, .int .i64 n] [(b, st, .rows 1 (l.map zrw))] n0 fun r h' _ => ∃ s', r = .sl b s' 0 (l ++ D5 a n.toNat).length ∧ h' = [(b, s', .rows 1 ((l ++ D5 a n.toNat).map zrw))] := by
 refine A3.enterK P5 (Nat.le_of_ble_eq_true rfl) fun Q hQ => Run.go 100 ?_
 simp -implicitDefEqProofs only [go_sem, Ins.v, Ins.row, A8]
 refine Run.keep [7, 2, 1, 0] ?_
 refine Run.rounds (fun (x : Nat × Nat × Nat) => ⟨[(7, .int .i64 x.1), (2, .int .i64 n), (1, .int .i64 a), (0, .sl b x.2.1 0 (l ++ D5 a x.1).length)], [(b, x.2.1, .rows 1 ((l ++ D5 a x.1).map zrw))], x.2.2⟩)
   (fun x => x.1 ≤ n.toNat) (fun x => n.toNat - x.1) (0, st, n0) (by simp -implicitDefEqProofs only [go_sem, Ins.v, Ins.row, B7h, List.append_nil]) (by simp only; omega) ?_
 rintro ⟨k, st, m⟩ hk ih
 simp only at hk ih ⊢
 have hz : ((k + 1 : Nat) : Int) = (k : Int) + 1 := by omega
 have hl := A7b a k
 have hll : (l ++ D5 a k).length = l.length + k := by simp [hl]
 have hns : (l ++ D5 a (k + 1)).map zrw = (l ++ D5 a k).map zrw ++ [[.int .i64 (a + k)]] := by rw [A0U]; simp [zrw]
 have hnl : (l ++ D5 a (k + 1)).length = (l ++ D5 a k).length + 1 := by rw [A0U]; simp; try omega
 have hml : ((l ++ D5 a k).map zrw).length = (l ++ D5 a k).length := List.length_map ..
 refine Run.unf V0 (Run.go 100 ?_)
 by_cases c : (k : Int) < n
 ·have fin := fun s => ih s (k + 1, m, m + 1) (by simp only; omega) (by simp only; omega)
  clear ih
  simp only [hz, hns, hnl] at fin
  generalize (l ++ D5 a k).map zrw = es at *
  generalize (l ++ D5 a k).length = el at *
  simp -implicitDefEqProofs only [go_sem, Ins.v, Ins.row, c]
  have hte : es.take el = es := List.take_of_length_le (by omega)
  rw [hte]
  exact ⟨by omega, by omega, by omega, by omega, fin _ (by simp -implicitDefEqProofs only [go_sem, Ins.v, Ins.row])⟩
 ·have e : k = n.toNat := by omega
  subst e
  have hte : ((l ++ D5 a n.toNat).map zrw).take (l ++ D5 a n.toNat).length = (l ++ D5 a n.toNat).map zrw := List.take_of_length_le (by rw [hml]; exact Nat.le_refl _)
  generalize (l ++ D5 a n.toNat).map zrw = es at *
  simp -implicitDefEqProofs only [go_sem, Ins.v, Ins.row, c]
  subst hQ
  exact .is ⟨st, by rw [List.length_append], rfl⟩
theorem A9G (a n : Int) (ha : -100000 ≤ a ∧ a ≤ 100000) (hn : n ≤ 100000) (n0 : Nat) : A3 Tryz.prog 102 [.nils, .int .i64 a, .int .i64 n] [] n0 fun r h' _ => r = .isl ((D5 a n.toNat).map zrw) ∧ h' = [] := by
 refine A3.enterK P5 (Nat.le_of_ble_eq_true rfl) fun Q hQ => Run.go 100 ?_
 simp -implicitDefEqProofs only [go_sem, Ins.v, Ins.row, A8]
 refine Run.roundsK (fun (x : Nat × Nat × Nat) => ⟨[(7, .int .i64 x.1), (2, .int .i64 n), (1, .int .i64 a), (0, .sl (102 * 10000 + 18) x.2.1 0 (D5 a x.1).length)], [((102 * 10000 + 18), x.2.1, .rows 1 ((D5 a x.1).map zrw))], x.2.2⟩)
   (fun x => x.1 ≤ n.toNat) (fun x => n.toNat - x.1) (0, n0, n0 + 1) ?_ (by simp only; omega) ?_
 ·refine .trans (.fresh (102 * 10000 + 18) 1 _ _ _) (.turn id ?_ (.at 0 rfl rfl (.refl _) trivial))
  exact ⟨.refl _, .refl _, .refl _, .nils, trivial⟩
 rintro ⟨k, st, m⟩ hk ih
 simp only at hk ih ⊢
 have hz : ((k + 1 : Nat) : Int) = (k : Int) + 1 := by omega
 have hl := A7b a k
 have hll : (D5 a k).length = k := by simp [hl]
 have hns : (D5 a (k + 1)).map zrw = (D5 a k).map zrw ++ [[.int .i64 (a + k)]] := by rw [A0U]; simp [zrw]
 have hnl : (D5 a (k + 1)).length = (D5 a k).length + 1 := by rw [A0U]; simp; try omega
 have hml : ((D5 a k).map zrw).length = (D5 a k).length := List.length_map ..
 refine Run.unf V0 (Run.go 100 ?_)
 by_cases c : (k : Int) < n
 ·have fin := fun s => ih s (k + 1, m, m + 1) (by simp only; omega) (by simp only; omega)
  clear ih
  simp only [hz, hns, hnl] at fin
  generalize (D5 a k).map zrw = es at *
  generalize (D5 a k).length = el at *
  simp -implicitDefEqProofs only [go_sem, Ins.v, Ins.row, c]
  have hte : es.take el = es := List.take_of_length_le (by omega)
  rw [hte]
  exact ⟨by omega, by omega, by omega, by omega, fin _ (m9.wk (by simp -implicitDefEqProofs only [go_sem, Ins.v, Ins.row]))⟩
 ·have e : k = n.toNat := by omega
  subst e
  have hte : ((D5 a n.toNat).map zrw).take (D5 a n.toNat).length = (D5 a n.toNat).map zrw := List.take_of_length_le (by rw [hml]; exact Nat.le_refl _)
  simp -implicitDefEqProofs only [go_sem, Ins.v, Ins.row, c]
  subst hQ
  exact .to (r2 := .isl _) (n2 := m) ⟨rfl, rfl⟩ (.freeze (b := (102 * 10000 + 18)) (st := st) (sz := 1) (rs := (D5 a n.toNat).map zrw) List.mem_cons_self ⟨Frz.all (by simp [hl]), trivial⟩ trivial)
theorem B7u (a0 a n : Int) (ha : -100000 ≤ a ∧ a ≤ 100000) (hn : n ≤ 100000) (b st n0 : Nat) : A3 Tryz.prog 101 [.sl b st 0 1, .int .i64 a, .int .i64 n] [(b, st, .rows 1 ([a0].map zrw))] n0 fun r h' _ => ∃ s', r = .tup [.sl b s' 0 (a0 :: (E6 a n).1).length, .int .i64 (E6 a n).2] ∧ h' = [(b, s', .rows 1 ((a0 :: (E6 a n).1).map zrw))] := by
 have hs := B7s [a0] a n (by simp) ha hn b st
 refine A3.enterK P4 (Nat.le_of_ble_eq_true rfl) fun Q hQ => Run.go 100 ?_
 by_cases h : n < 0
 ·rw [B0b h] at hQ
  simp -implicitDefEqProofs only [go_sem, Ins.v, Ins.row, A8, h]
  subst hQ
  exact .is ⟨st, rfl, rfl⟩
 ·rw [A4c h] at hQ
  simp -implicitDefEqProofs only [go_sem, Ins.v, Ins.row, A8, h]
  refine A3.at [0] [] (hs _) rfl rfl ?_
  rintro r h' n' hn ⟨s', rfl, rfl⟩
  simp -implicitDefEqProofs only [go_sem, Ins.v, Ins.row]
  subst hQ
  exact .is ⟨s', rfl, rfl⟩
theorem F5.tupN {x : V} : F5 (.tup [.nils, x]) (.tup [.isl [], x]) := fun E y h => by
 cases h with
 | tup _ vs hl hR =>
  refine .tup _ vs hl fun i c v hc hv => ?_
  match i with
  | 0 =>
   cases hc
   have := hR 0 .nils v rfl hv
   cases this
   exact .isl0 _ _
  | i + 1 => exact hR (i + 1) c v hc hv
theorem B0h (a n : Int) (ha : -100000 ≤ a ∧ a ≤ 100000) (hn : n ≤ 100000) (n0 : Nat) : A3 Tryz.prog 101 [.nils, .int .i64 a, .int .i64 n] [] n0 fun r h' _ => r = .tup [.isl ((E6 a n).1.map zrw), .int .i64 (E6 a n).2] ∧ h' = [] := by
 have hs := A9G a n ha hn
 refine A3.enterK P4 (Nat.le_of_ble_eq_true rfl) fun Q hQ => Run.go 100 ?_
 by_cases h : n < 0
 ·rw [B0b h] at hQ
  simp -implicitDefEqProofs only [go_sem, Ins.v, Ins.row, A8, h]
  subst hQ
  exact .to (r2 := .tup [.isl [], .int .i64 a]) (n2 := n0) ⟨rfl, rfl⟩ (.turn id ⟨F5.tupN, trivial⟩ trivial)
 ·rw [A4c h] at hQ
  simp -implicitDefEqProofs only [go_sem, Ins.v, Ins.row, A8, h]
  refine A3.at [] [] (hs _) rfl rfl ?_
  rintro r h' n' hn ⟨rfl, rfl⟩
  simp -implicitDefEqProofs only [go_sem, Ins.v, Ins.row]
  subst hQ
  exact .is ⟨rfl, rfl⟩
-- EV: Ins.v, Ins.row
theorem M8 (zs : List Int) (hB : zs.length ≤ 1000) (b st n : Nat) : A3 Tryz.prog 100 [.sl b st 0 zs.length] [(b, st, .rows 1 (zs.map zrw))] n fun r h' _ => r = .isl ((D6 zs).map zrw) ∧ h' = [] :=
 A3.pre (xs' := [.isl (zs.map zrw)]) (h' := []) (n' := n) (.freeze (b := b) (st := st) (sz := 1) (rs := zs.map zrw) List.mem_cons_self ⟨Frz.all (List.length_map ..).symm, trivial⟩ trivial) rfl
  (A3.pureF (C0n zs hB) (by simp only [List.map_cons, List.map_nil, V.sub, U3, B2h]) ⟨rfl, rfl⟩)
theorem B4Z (a : Int) : D6 [a, a + 1, a + 2] = D5 a 3 := by
 have e : D5 a 3 = [a, a + 1, a + 2] := by simp [D5, List.range_succ]
 rw [← e]; exact B9w (A9P a 3)
theorem B2d (a b : Int) (h : a < b) : D6 [a, b] = [a, b] := by rw [C0s, if_neg (by omega), if_pos h]
theorem B5V (i : Ins) : Pure Tryz.prog 79 [i.v] (.tup [.isl ((H0 i).1.map zrw), .int .i64 (H0 i).2]) := by
 refine Pure.of 1 (A3.enter Z0 (Nat.le_of_ble_eq_true rfl) ?_)
 refine Run.go 100 ?_
 simp -implicitDefEqProofs only [go_sem, Ins.v, Ins.row, A8]
 refine A3.pureF (A6L i) (by simp -implicitDefEqProofs only [go_sem, Ins.v, Ins.row]) ?_
 by_cases hc : chk i = 0
 rotate_left
 ·rw [show H0 i = ([], -1) from if_neg hc]
  simp -implicitDefEqProofs only [go_sem, Ins.v, Ins.row, hc, List.map_nil]
 ·rw [show H0 i = rds i from if_pos hc, hc]
  have h0 := A9R hc
  simp -implicitDefEqProofs only [go_sem, Ins.v, Ins.row]
  repeat' (first | refine And.intro ?_ ?_ | refine fun h => ?_)
  all_goals first
   | omega
   | (simp [rds, zrw, *]; done)
   | (rw [show rds i = (D6 [i.b], -1) by simp [rds, A2d, *]]
      refine A3.at [0] [] (M8 [i.b] (by simp) _ _ _) rfl rfl ?_
      rintro r h' n' hn ⟨rfl, rfl⟩
      simp -implicitDefEqProofs only [go_sem, Ins.v, Ins.row, V1]
      done)
   | (rw [show rds i = (D6 [i.a], -1) by simp [rds, A2d, *]]
      refine A3.at [0] [] (M8 [i.a] (by simp) _ _ _) rfl rfl ?_
      rintro r h' n' hn ⟨rfl, rfl⟩
      simp -implicitDefEqProofs only [go_sem, Ins.v, Ins.row, V1]
      done)
   | (rw [show rds i = (D6 [i.a + 3], -1) by simp [rds, A2d, *]]
      refine A3.at [0] [] (M8 [i.a + 3] (by simp) _ _ _) rfl rfl ?_
      rintro r h' n' hn ⟨rfl, rfl⟩
      simp -implicitDefEqProofs only [go_sem, Ins.v, Ins.row, V1]
      done)
   | (rw [show rds i = (D6 [i.b, i.c], -1) by simp [rds, *]]
      refine A3.at [0] [] (M8 [i.b, i.c] (by simp) _ _ _) rfl rfl ?_
      rintro r h' n' hn ⟨rfl, rfl⟩
      simp -implicitDefEqProofs only [go_sem, Ins.v, Ins.row, V1]
      done)
   | (rw [show rds i = (D6 [i.a, i.b, i.c], -1) by simp [rds, *]]
      refine A3.at [0] [] (M8 [i.a, i.b, i.c] (by simp) _ _ _) rfl rfl ?_
      rintro r h' n' hn ⟨rfl, rfl⟩
      simp -implicitDefEqProofs only [go_sem, Ins.v, Ins.row, V1]
      done)
   | (rw [show rds i = (D6 [i.a, i.a + 1, i.a + 2], -1) by (rw [B4Z]; simp [rds, E6, *])]
      refine A3.at [0] [] (M8 [i.a, i.a + 1, i.a + 2] (by simp) _ _ _) rfl rfl ?_
      rintro r h' n' hn ⟨rfl, rfl⟩
      simp -implicitDefEqProofs only [go_sem, Ins.v, Ins.row, V1]
      done)
   | (rw [show rds i = (i.a :: (E6 (i.a + 1) i.b).1, (E6 (i.a + 1) i.b).2) by simp [rds, *]]
      refine A3.at [0] [] (B7u i.a (i.a + 1) i.b ⟨by omega, by omega⟩ (by omega) _ _ _) rfl rfl ?_
      rintro r h' n' hn ⟨s', rfl, rfl⟩
      simp -implicitDefEqProofs only [go_sem, Ins.v, Ins.row]
      exact ⟨rfl, V1 _ _ _⟩)
   | (rw [show rds i = E6 (i.a) i.b by simp [rds, *]]
      refine A3.at [] [] (B0h (i.a) i.b ⟨by omega, by omega⟩ (by omega) _) rfl rfl ?_
      rintro r h' n' hn ⟨rfl, rfl⟩
      simp -implicitDefEqProofs only [go_sem, Ins.v, Ins.row, V1]
      done)
theorem B3M (i : Ins) : Pure Tryz.prog 80 [i.v] (.tup [.isl ((E3 i).1.map zrw), .int .i64 (E3 i).2]) := by
 refine Pure.of 1 (A3.enter X6 (Nat.le_of_ble_eq_true rfl) ?_)
 refine Run.go 100 ?_
 simp -implicitDefEqProofs only [go_sem, Ins.v, Ins.row, A8]
 refine A3.pureF (A6L i) (by simp -implicitDefEqProofs only [go_sem, Ins.v, Ins.row]) ?_
 by_cases hc : chk i = 0
 rotate_left
 ·rw [show E3 i = ([], -1) from if_neg hc]
  simp -implicitDefEqProofs only [go_sem, Ins.v, Ins.row, hc, List.map_nil]
 ·rw [show E3 i = wrs i from if_pos hc, hc]
  have h0 := A9R hc
  have h1 := B5i hc
  simp -implicitDefEqProofs only [go_sem, Ins.v, Ins.row]
  repeat' (first | refine And.intro ?_ ?_ | refine fun h => ?_)
  all_goals first
   | omega
   | (simp [wrs, zrw, *]; done)
   | (rw [show wrs i = (D6 [i.a], -1) by simp [wrs, A2d, *]]
      refine A3.at [0] [] (M8 [i.a] (by simp) _ _ _) rfl rfl ?_
      rintro r h' n' hn ⟨rfl, rfl⟩
      simp -implicitDefEqProofs only [go_sem, Ins.v, Ins.row, V1]
      done)
   | (rw [show wrs i = (D6 [i.a + 3], -1) by simp [wrs, A2d, *]]
      refine A3.at [0] [] (M8 [i.a + 3] (by simp) _ _ _) rfl rfl ?_
      rintro r h' n' hn ⟨rfl, rfl⟩
      simp -implicitDefEqProofs only [go_sem, Ins.v, Ins.row, V1]
      done)
   | (rw [show wrs i = (D6 [i.a + 2], -1) by simp [wrs, A2d, *]]
      refine A3.at [0] [] (M8 [i.a + 2] (by simp) _ _ _) rfl rfl ?_
      rintro r h' n' hn ⟨rfl, rfl⟩
      simp -implicitDefEqProofs only [go_sem, Ins.v, Ins.row, V1]
      done)
   | (rw [show wrs i = (D6 [i.a, i.a + 1], -1) by (rw [B2d _ _ (by omega)]; simp [wrs, *])]
      refine A3.at [0] [] (M8 [i.a, i.a + 1] (by simp) _ _ _) rfl rfl ?_
      rintro r h' n' hn ⟨rfl, rfl⟩
      simp -implicitDefEqProofs only [go_sem, Ins.v, Ins.row, V1]
      done)
   | (rw [show wrs i = (D6 [i.a, i.a + 3], -1) by (rw [B2d _ _ (by omega)]; simp [wrs, *])]
      refine A3.at [0] [] (M8 [i.a, i.a + 3] (by simp) _ _ _) rfl rfl ?_
      rintro r h' n' hn ⟨rfl, rfl⟩
      simp -implicitDefEqProofs only [go_sem, Ins.v, Ins.row, V1]
      done)
   | (rw [show wrs i = (D5 (i.a) (i.b - i.a + 1).toNat, -1) by simp [wrs, *]; exact A4c (by omega)]
      refine A3.at [] [] (A9G (i.a) (i.b - i.a + 1) ⟨by omega, by omega⟩ (by omega) _) rfl rfl ?_
      rintro r h' n' hn ⟨rfl, rfl⟩
      simp -implicitDefEqProofs only [go_sem, Ins.v, Ins.row, V1]
      done)
   | (rw [show wrs i = (D5 (i.a + 3) (i.c).toNat, -1) by simp [wrs, *]; exact A4c (by omega)]
      refine A3.at [] [] (A9G (i.a + 3) (i.c) ⟨by omega, by omega⟩ (by omega) _) rfl rfl ?_
      rintro r h' n' hn ⟨rfl, rfl⟩
      simp -implicitDefEqProofs only [go_sem, Ins.v, Ins.row, V1]
      done)
   | (rw [show wrs i = E6 (i.a) (i.c) by simp [wrs, *]]
      refine A3.at [] [] (B0h (i.a) (i.c) ⟨by omega, by omega⟩ (by omega) _) rfl rfl ?_
      rintro r h' n' hn ⟨rfl, rfl⟩
      simp -implicitDefEqProofs only [go_sem, Ins.v, Ins.row, V1]
      done)
   | (rw [show wrs i = E6 (i.a) (i.b) by simp [wrs, *]]
      refine A3.at [] [] (B0h (i.a) (i.b) ⟨by omega, by omega⟩ (by omega) _) rfl rfl ?_
      rintro r h' n' hn ⟨rfl, rfl⟩
      simp -implicitDefEqProofs only [go_sem, Ins.v, Ins.row, V1]
      done)
end Go.Proofs.YtpmkgcjhbpiojaaGreatDoor
