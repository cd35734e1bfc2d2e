/-
 The registers that an instruction reads and writes, as data. No program, no condition.
-/
import Derived.Test.YtpmkgcjhbpiojaaGreatDoorOpT
import Derived.Test.YtpmkgcjhbpiojaaGreatDoorSetM
import Derived.Test.YtpmkgcjhbpiojaaGreatDoorCode
import Derived.Test.YtpmkgcjhbpiojaaGreatDoorOpc3
set_option linter.unusedVariables false
set_option linter.unusedSimpArgs false
set_option maxRecDepth 100000
set_option maxHeartbeats 0
namespace Go.Proofs.YtpmkgcjhbpiojaaGreatDoor
open Go.Abs
attribute [local irreducible] A3 Run
def E6 (a n : Int) : List Int × Int := if n < 0 then ([], a) else (D5 a n.toNat, -1)
def rds (i : Ins) : List Int × Int :=
 if i.op = 1 ∨ i.op = 6 ∨ i.op = 8 ∨ i.op = 11 ∨ i.op = 12 then ([i.b], -1)
 else if i.op = 9 ∨ i.op = 13 then (D6 [i.b, i.c], -1)
 else if i.op = 10 then (D6 [i.a, i.b, i.c], -1)
 else if i.op = 15 ∨ i.op = 28 then ([i.a], -1)
 else if i.op = 16 ∨ i.op = 17 ∨ i.op = 21 then (i.a :: (E6 (i.a + 1) i.b).1, (E6 (i.a + 1) i.b).2)
 else if i.op = 18 then E6 i.a i.b
 else if i.op = 23 ∨ i.op = 24 ∨ i.op = 25 then E6 i.a 3
 else if i.op = 26 then ([i.a + 3], -1)
 else ([], -1)
def wrs (i : Ins) : List Int × Int :=
 if i.op = 1 ∨ i.op = 2 ∨ i.op = 4 ∨ i.op = 5 ∨ i.op = 7 ∨ i.op = 9 ∨ i.op = 12 ∨ i.op = 13 ∨ i.op = 20 ∨ i.op = 22 then ([i.a], -1)
 else if i.op = 3 then E6 i.a (i.b - i.a + 1)
 else if i.op = 11 then ([i.a, i.a + 1], -1)
 else if i.op = 16 then E6 i.a i.c
 else if i.op = 19 then E6 i.a i.b
 else if i.op = 23 then ([i.a + 3], -1)
 else if i.op = 24 then ([i.a, i.a + 3], -1)
 else if i.op = 25 then E6 (i.a + 3) i.c
 else if i.op = 26 then ([i.a + 2], -1)
 else ([], -1)
def H0 (i : Ins) : List Int × Int := if chk i = 0 then rds i else ([], -1)
def E3 (i : Ins) : List Int × Int := if chk i = 0 then wrs i else ([], -1)
theorem B5i {i : Ins} (h : chk i = 0) :
  (i.op = 3 → 0 ≤ i.b - i.a + 1) ∧ (i.op = 25 → 1 ≤ i.c) := by
 unfold chk at h
 cases ho : U2 i.op with
 | false => rw [ho] at h; simp at h
 | true =>
  obtain ⟨op, a, b, c, d⟩ := i
  simp only at h ho ⊢
  refine ⟨?_, ?_⟩ <;> rintro rfl <;> simp [frm, B0K, B7l, U2, A2U, A2H, low, high, B7K, B2g, A6z, mm2] at h <;> omega
theorem B0b {a n : Int} (h : n < 0) : E6 a n = ([], a) := if_pos h
theorem A4c {a n : Int} (h : ¬ n < 0) : E6 a n = (D5 a n.toNat, -1) := if_neg h
theorem C0d (a n : Int) : (E6 a n).1.length ≤ n.toNat := by unfold E6; split <;> simp [A7b]
theorem A9I (a n : Int) : Asc (E6 a n).1 := by
 unfold E6; split
 ·exact A7i
 ·exact A9P _ _
theorem A9S {a n x : Int} : x ∈ (E6 a n).1 ↔ a ≤ x ∧ x < a + n := by
 unfold E6
 split
 ·simp; omega
 ·simp only [B2N]; omega
theorem C3d {x y : Int} (h : x < y) : Asc [x, y] := List.pairwise_cons.2 ⟨fun a ha => by rw [List.mem_singleton.1 ha]; exact h, B3T y⟩
theorem C3N (i : Ins) : Asc (rds i).1 := by
 unfold rds
 repeat' split
 all_goals first | exact B3T _ | exact A4s _ | exact A9I _ _ | exact A7i | skip
 exact List.pairwise_cons.2 ⟨fun a ha => by have := A9S.1 ha; omega, A9I _ _⟩
theorem C4h (i : Ins) : Asc (wrs i).1 := by
 unfold wrs
 repeat' split
 all_goals first | exact B3T _ | exact A4s _ | exact A9I _ _ | exact A7i | exact C3d (by omega)
theorem B8U (i : Ins) : Asc (H0 i).1 := by unfold H0; split; exact C3N i; exact A7i
theorem B6J (i : Ins) : Asc (E3 i).1 := by unfold E3; split; exact C4h i; exact A7i
theorem B3e (a n : Int) : (E6 a n).2 = if n < 0 then a else -1 := by unfold E6; split <;> rfl
theorem B6l (i : Ins) : (∀ x ∈ (H0 i).1, 0 ≤ x ∧ x < 4096) ∧ -1 ≤ (H0 i).2 ∧ (H0 i).2 ≤ 4096 ∧ ((H0 i).2 = -1 ∨ i.b = -1) := by
 unfold H0
 by_cases h : chk i = 0
 rotate_left
 ·rw [if_neg h]; simp
 rw [if_pos h]
 have h0 := A9R h
 unfold chk at h
 cases ho : U2 i.op with
 | false => rw [ho] at h; simp at h
 | true =>
  obtain ⟨op, a, b, c, d⟩ := i
  simp only at h ho h0 ⊢
  rcases A4k ho with rfl | rfl | rfl | rfl | rfl | rfl | rfl | rfl | rfl | rfl | rfl | rfl | rfl | rfl | rfl | rfl | rfl | rfl | rfl | rfl | rfl | rfl | rfl | rfl | rfl | rfl | rfl | rfl | rfl <;>
  (simp [frm, B0K, B7l, U2, A2U, A2H, low, high, B7K, B2g, A6z, mm2] at h
   refine ⟨fun x hx => ?_, ?_, ?_, ?_⟩
   ·simp [rds, A0Z, A9S] at hx <;> omega
   all_goals (simp [rds, B3e] <;> omega))
theorem B3p (i : Ins) : (∀ x ∈ (E3 i).1, 0 ≤ x ∧ x < 4096) ∧ -1 ≤ (E3 i).2 ∧ (E3 i).2 ≤ 4096 ∧ ((E3 i).2 = -1 ∨ i.b = -1 ∨ i.c = -1) := by
 unfold E3
 by_cases h : chk i = 0
 rotate_left
 ·rw [if_neg h]; simp
 rw [if_pos h]
 have h0 := A9R h
 unfold chk at h
 cases ho : U2 i.op with
 | false => rw [ho] at h; simp at h
 | true =>
  obtain ⟨op, a, b, c, d⟩ := i
  simp only at h ho h0 ⊢
  rcases A4k ho with rfl | rfl | rfl | rfl | rfl | rfl | rfl | rfl | rfl | rfl | rfl | rfl | rfl | rfl | rfl | rfl | rfl | rfl | rfl | rfl | rfl | rfl | rfl | rfl | rfl | rfl | rfl | rfl | rfl <;>
  (simp [frm, B0K, B7l, U2, A2U, A2H, low, high, B7K, B2g, A6z, mm2] at h
   refine ⟨fun x hx => ?_, ?_, ?_, ?_⟩
   ·simp [wrs, A0Z, A9S] at hx <;> omega
   all_goals (simp [wrs, B3e] <;> omega))
-- EV: Ins.v, Ins.row
theorem A0V (a n : Int) (ha : -100000 ≤ a ∧ a ≤ 100000) (hn : n ≤ 100000) : Pure Tryz.prog 93 [.int .i64 a, .int .i64 n] (.tup [.isl ((E6 a n).1.map zrw), .int .i64 (E6 a n).2]) := by
 refine Pure.of 1 (A3.enter A5Z (Nat.le_of_ble_eq_true rfl) ?_)
 refine Run.go 100 ?_
 by_cases h : n < 0
 ·rw [B0b h]
  simp -implicitDefEqProofs only [go_sem, Ins.v, Ins.row, A8, h, List.map_nil]
 ·rw [A4c h]
  simp -implicitDefEqProofs only [go_sem, Ins.v, Ins.row, A8, h]
  refine Run.roundsK (fun (x : Nat × Nat × Nat) => ⟨[(12, .int .i64 x.1), (11, .int .i64 n), (6, .sl (93 * 10000 + 20) x.2.1 0 (D5 a x.1).length), (0, .int .i64 a)], [((93 * 10000 + 20), x.2.1, .rows 1 ((D5 a x.1).map zrw))], x.2.2⟩)
   (fun x => x.1 ≤ n.toNat) (fun x => n.toNat - x.1) (0, 0, 1) ?_ (by simp only; omega) ?_
  ·refine .trans (.fresh (93 * 10000 + 20) 1 _ _ _) (.turn id ?_ (.at 0 rfl rfl (.refl _) trivial))
   exact ⟨.refl _, .refl _, .nils, .refl _, trivial⟩
  rintro ⟨k, st, m⟩ hk ih
  simp only at hk ⊢
  have hz : ((k + 1 : Nat) : Int) = (k : Int) + 1 := by omega
  have hl := A7b a k
  refine Run.unf A8K (Run.go 100 ?_)
  by_cases c : (k : Int) < n
  ·simp -implicitDefEqProofs only [go_sem, Ins.v, Ins.row, c]
   refine ⟨by omega, by omega, by omega, ?_⟩
   refine ih _ (k + 1, m, m + 1) (by simp only; omega) (by simp only; omega) (m9.wk ?_)
   simp only [hz, A0U, List.map_append, List.length_append, List.map_cons, List.map_nil, List.length_cons, List.length_nil, zrw]
   simp -implicitDefEqProofs only [go_sem, Ins.v, Ins.row]
  ·have e : k = n.toNat := by omega
   subst e
   simp -implicitDefEqProofs only [go_sem, Ins.v, Ins.row, c]
   exact V1 _ _ _
theorem B4H : ∀ {l : List Int} {a b : Int}, Asc l → (∀ x ∈ l, a ≤ x) → (∀ x ∈ l, x < b) → (l.length : Int) ≤ max (b - a) 0
 | [], a, b, _, _, _ => by simp; omega
 | x :: l, a, b, h, h1, h2 => by
  obtain ⟨h3, h4⟩ := List.pairwise_cons.1 h
  have := B4H (a := x + 1) (b := b) h4 (fun y hy => by have := h3 y hy; omega) (fun y hy => h2 y (List.mem_cons_of_mem _ hy))
  have hx := h1 x List.mem_cons_self
  have hx2 := h2 x List.mem_cons_self
  simp only [List.length_cons]
  omega
theorem B3h (zs : List Int) (m : Nat) : (((D6 zs ++ List.replicate m 0).map zrw).take (D6 zs).length) = (D6 zs).map zrw := B4t (A2O zs) m
theorem C2Y (l : List Int) : C4 (l.map zrw) 1 = True := eq_true fun r hr => by obtain ⟨y, _, rfl⟩ := List.mem_map.1 hr; rfl
theorem B2h (l : List Int) : (l.map zrw).map (fun r => r.map (V.sub R4)) = l.map zrw := V1 0 [] l
theorem B6o (zs : List Int) {m : Nat} (hl : zs.length = m) (hm : 0 < m) (hB : m ≤ 100000) (b st n : Nat) :
  A3 Tryz.prog 92 [.sl b st 0 m] [(b, st, .rows 1 (zs.map zrw))] n (fun r h' _ => r = .sl b st 0 (D6 zs).length ∧ h' = [(b, st, .rows 1 ((D6 zs ++ List.replicate (m - (D6 zs).length) 0).map zrw))]) := by
 refine A3.enter A4h (Nat.le_of_ble_eq_true rfl) ?_
 refine Run.go 100 ?_
 simp -implicitDefEqProofs only [go_sem, Ins.v, Ins.row, A8]
 refine A3.at [0] [] (C7t zs hl hm hB _ _ _) rfl rfl ?_
 rintro r h' n' hn ⟨rfl, rfl⟩
 simp -implicitDefEqProofs only [go_sem, Ins.v, Ins.row]
 refine A3.at [0] [] (B9g (A2O zs) (m := m) (by simp [A2O, hl]) hm hB _ _ _) rfl rfl ?_
 rintro r h' n' hn ⟨rfl, rfl⟩
 simp -implicitDefEqProofs only [go_sem, Ins.v, Ins.row, D6]
-- EV: Ins.v, Ins.row
theorem B7P (i : Ins) : Pure Tryz.prog 72 [i.v] (.tup [.isl ((H0 i).1.map zrw), .int .i64 (H0 i).2]) := by
 refine Pure.of 1 (A3.enter A5p (Nat.le_of_ble_eq_true rfl) ?_)
 refine Run.go 100 ?_
 simp -implicitDefEqProofs only [go_sem, Ins.v, Ins.row, A8]
 refine A3.pureF (A8v i) (by simp -implicitDefEqProofs only [go_sem, Ins.v, Ins.row]) ?_
 by_cases hc : chk i = 0
 rotate_left
 ·rw [show H0 i = ([], -1) from if_neg hc]
  simp -implicitDefEqProofs only [go_sem, Ins.v, Ins.row, hc, List.map_nil]
 ·rw [show H0 i = rds i from if_pos hc, hc]
  have h0 := A9R hc
  simp -implicitDefEqProofs only [go_sem, Ins.v, Ins.row]
  repeat' (first | refine And.intro ?_ ?_ | refine fun h => ?_)
  all_goals first
   | omega
   | (simp [rds, zrw, *]; done)
   | (rw [show rds i = (D6 [i.b, i.c], -1) by simp [rds, *]]
      refine A3.at [0] [] (B6o [i.b, i.c] (m := 2) rfl (by omega) (by omega) _ _ _) rfl rfl ?_
      rintro r h' n' hn ⟨rfl, rfl⟩
      simp -implicitDefEqProofs only [go_sem, Ins.v, Ins.row, B3h, V1, Nat.le_add_right]
      done)
   | (rw [show rds i = (D6 [i.a, i.b, i.c], -1) by simp [rds, *]]
      refine A3.at [0] [] (B6o [i.a, i.b, i.c] (m := 3) rfl (by omega) (by omega) _ _ _) rfl rfl ?_
      rintro r h' n' hn ⟨rfl, rfl⟩
      simp -implicitDefEqProofs only [go_sem, Ins.v, Ins.row, B3h, V1, Nat.le_add_right]
      done)
   | (rw [show rds i = (i.a :: (E6 (i.a + 1) i.b).1, (E6 (i.a + 1) i.b).2) by simp [rds, *]]
      have hle : (E6 (i.a + 1) i.b).1.length ≤ 20000 := by have := C0d (i.a + 1) i.b; omega
      have hsz := C2Y (E6 (i.a + 1) i.b).1
      refine A3.pureF (A0V (i.a + 1) i.b ⟨by omega, by omega⟩ (by omega)) (by simp -implicitDefEqProofs only [go_sem, Ins.v, Ins.row, B2h]) ?_
      simp -implicitDefEqProofs only [go_sem, Ins.v, Ins.row, V1, hsz, List.length_map]
      refine ⟨by omega, ?_⟩
      rw [if_pos (by omega), List.take_of_length_le (by simp; omega)]
      exact congrArg V.isl (V1 0 _ (i.a :: (E6 (i.a + 1) i.b).1)))
   | (rw [show rds i = E6 (i.a) i.b by simp [rds, *]]
      refine A3.pureF (A0V (i.a) i.b ⟨by omega, by omega⟩ (by omega)) (by simp -implicitDefEqProofs only [go_sem, Ins.v, Ins.row]) ?_
      simp -implicitDefEqProofs only [go_sem, Ins.v, Ins.row, V1]
      done)
   | (rw [show rds i = E6 (i.a) 3 by simp [rds, *]]
      refine A3.pureF (A0V (i.a) 3 ⟨by omega, by omega⟩ (by omega)) (by simp -implicitDefEqProofs only [go_sem, Ins.v, Ins.row]) ?_
      simp -implicitDefEqProofs only [go_sem, Ins.v, Ins.row, V1]
      done)
theorem B5j (i : Ins) : Pure Tryz.prog 73 [i.v] (.tup [.isl ((E3 i).1.map zrw), .int .i64 (E3 i).2]) := by
 refine Pure.of 1 (A3.enter A4O (Nat.le_of_ble_eq_true rfl) ?_)
 refine Run.go 100 ?_
 simp -implicitDefEqProofs only [go_sem, Ins.v, Ins.row, A8]
 refine A3.pureF (A8v i) (by simp -implicitDefEqProofs only [go_sem, Ins.v, Ins.row]) ?_
 by_cases hc : chk i = 0
 rotate_left
 ·rw [show E3 i = ([], -1) from if_neg hc]
  simp -implicitDefEqProofs only [go_sem, Ins.v, Ins.row, hc, List.map_nil]
 ·rw [show E3 i = wrs i from if_pos hc, hc]
  have h0 := A9R hc
  have h1 := B5i hc
  simp -implicitDefEqProofs only [go_sem, Ins.v, Ins.row]
  repeat' (first | refine And.intro ?_ ?_ | refine fun h => ?_)
  all_goals first
   | omega
   | (simp [wrs, zrw, *]; done)
   | (rw [show wrs i = E6 (i.a) (i.b - i.a + 1) by simp [wrs, *]]
      refine A3.pureF (A0V (i.a) (i.b - i.a + 1) ⟨by omega, by omega⟩ (by omega)) (by simp -implicitDefEqProofs only [go_sem, Ins.v, Ins.row]) ?_
      simp -implicitDefEqProofs only [go_sem, Ins.v, Ins.row, V1]
      done)
   | (rw [show wrs i = E6 (i.a) (i.c) by simp [wrs, *]]
      refine A3.pureF (A0V (i.a) (i.c) ⟨by omega, by omega⟩ (by omega)) (by simp -implicitDefEqProofs only [go_sem, Ins.v, Ins.row]) ?_
      simp -implicitDefEqProofs only [go_sem, Ins.v, Ins.row, V1]
      done)
   | (rw [show wrs i = E6 (i.a) (i.b) by simp [wrs, *]]
      refine A3.pureF (A0V (i.a) (i.b) ⟨by omega, by omega⟩ (by omega)) (by simp -implicitDefEqProofs only [go_sem, Ins.v, Ins.row]) ?_
      simp -implicitDefEqProofs only [go_sem, Ins.v, Ins.row, V1]
      done)
   | (rw [show wrs i = E6 (i.a + 3) (i.c) by simp [wrs, *]]
      refine A3.pureF (A0V (i.a + 3) (i.c) ⟨by omega, by omega⟩ (by omega)) (by simp -implicitDefEqProofs only [go_sem, Ins.v, Ins.row]) ?_
      simp -implicitDefEqProofs only [go_sem, Ins.v, Ins.row, V1]
      done)
end Go.Proofs.YtpmkgcjhbpiojaaGreatDoor
