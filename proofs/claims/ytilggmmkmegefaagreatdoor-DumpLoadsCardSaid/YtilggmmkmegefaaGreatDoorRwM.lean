/-
 The registers read and written. No condition.
-/
import Derived.Test.YtilggmmkmegefaaGreatDoorOpT
import Derived.Test.YtilggmmkmegefaaGreatDoorSetM
import Derived.Test.YtilggmmkmegefaaGreatDoorCode
import Derived.Test.YtilggmmkmegefaaGreatDoorOpc3
set_option linter.unusedVariables false
set_option linter.unusedSimpArgs false
set_option maxRecDepth 100000
set_option maxHeartbeats 0
namespace Go.Proofs.YtilggmmkmegefaaGreatDoor
open Go.Abs
attribute [local irreducible] A4 Run
-- EV: Ins.v, Ins.row
def G4 (a n : Int) : List Int × Int := if n < 0 then ([], a) else (A4M a n.toNat, -1)
def rds (i : Ins) : List Int × Int :=
 if i.op = 1 ∨ i.op = 6 ∨ i.op = 8 ∨ i.op = 11 ∨ i.op = 12 then ([i.b], -1)
 else if i.op = 9 ∨ i.op = 13 then (Y4 [i.b, i.c], -1)
 else if i.op = 10 then (Y4 [i.a, i.b, i.c], -1)
 else if i.op = 15 ∨ i.op = 28 then ([i.a], -1)
 else if i.op = 16 ∨ i.op = 17 ∨ i.op = 21 then (i.a :: (G4 (i.a + 1) i.b).1, (G4 (i.a + 1) i.b).2)
 else if i.op = 18 then G4 i.a i.b
 else if i.op = 23 ∨ i.op = 24 ∨ i.op = 25 then G4 i.a 3
 else if i.op = 26 then ([i.a + 3], -1)
 else ([], -1)
def wrs (i : Ins) : List Int × Int :=
 if i.op = 1 ∨ i.op = 2 ∨ i.op = 4 ∨ i.op = 5 ∨ i.op = 7 ∨ i.op = 9 ∨ i.op = 12 ∨ i.op = 13 ∨ i.op = 20 ∨ i.op = 22 then ([i.a], -1)
 else if i.op = 3 then G4 i.a (i.b - i.a + 1)
 else if i.op = 11 then ([i.a, i.a + 1], -1)
 else if i.op = 16 then G4 i.a i.c
 else if i.op = 19 then G4 i.a i.b
 else if i.op = 23 then ([i.a + 3], -1)
 else if i.op = 24 then ([i.a, i.a + 3], -1)
 else if i.op = 25 then G4 (i.a + 3) i.c
 else if i.op = 26 then ([i.a + 2], -1)
 else ([], -1)
def reads (i : Ins) : List Int × Int := if chk i = 0 then rds i else ([], -1)
def D3 (i : Ins) : List Int × Int := if chk i = 0 then wrs i else ([], -1)
theorem C2h {i : Ins} (h : chk i = 0) :
  (i.op = 3 → 0 ≤ i.b - i.a + 1) ∧ (i.op = 25 → 1 ≤ i.c) := by
 unfold chk at h
 cases ho : A2S i.op with
 | false => rw [ho] at h; simp at h
 | true =>
  obtain ⟨op, a, b, c, d⟩ := i
  simp only at h ho ⊢
  refine ⟨?_, ?_⟩ <;> rintro rfl <;> simp [frm, B2l, B9a, A2S, A1P, A1i, low, high, B9P, B3d, A6I, mm2] at h <;> omega
theorem A9u {a n : Int} (h : n < 0) : G4 a n = ([], a) := if_pos h
theorem C0i {a n : Int} (h : ¬ n < 0) : G4 a n = (A4M a n.toNat, -1) := if_neg h
theorem C0a (a n : Int) : (G4 a n).1.length ≤ n.toNat := by unfold G4; split <;> simp [B2E]
theorem A9b (a n : Int) : Asc (G4 a n).1 := by
 unfold G4; split
 ·exact A6h
 ·exact B3t _ _
theorem A9y {a n x : Int} : x ∈ (G4 a n).1 ↔ a ≤ x ∧ x < a + n := by
 unfold G4
 split
 ·simp; omega
 ·simp only [B3j]; omega
theorem C3d {x y : Int} (h : x < y) : Asc [x, y] := List.pairwise_cons.2 ⟨fun a ha => by rw [List.mem_singleton.1 ha]; exact h, B4z y⟩
theorem C3U (i : Ins) : Asc (rds i).1 := by
 unfold rds
 repeat' split
 all_goals first | exact B4z _ | exact B3q _ | exact A9b _ _ | exact A6h | skip
 exact List.pairwise_cons.2 ⟨fun a ha => by have := A9y.1 ha; omega, A9b _ _⟩
theorem C3T (i : Ins) : Asc (wrs i).1 := by
 unfold wrs
 repeat' split
 all_goals first | exact B4z _ | exact B3q _ | exact A9b _ _ | exact A6h | exact C3d (by omega)
theorem B2z (i : Ins) : Asc (reads i).1 := by unfold reads; split; exact C3U i; exact A6h
theorem B7B (i : Ins) : Asc (D3 i).1 := by unfold D3; split; exact C3T i; exact A6h
theorem A2N (a n : Int) : (G4 a n).2 = if n < 0 then a else -1 := by unfold G4; split <;> rfl
theorem A5o (i : Ins) : (∀ x ∈ (reads i).1, 0 ≤ x ∧ x < 4096) ∧ -1 ≤ (reads i).2 ∧ (reads i).2 ≤ 4096 ∧ ((reads i).2 = -1 ∨ i.b = -1) := by
 unfold reads
 by_cases h : chk i = 0
 rotate_left
 ·rw [if_neg h]; simp
 rw [if_pos h]
 have h0 := A7r h
 unfold chk at h
 cases ho : A2S i.op with
 | false => rw [ho] at h; simp at h
 | true =>
  obtain ⟨op, a, b, c, d⟩ := i
  simp only at h ho h0 ⊢
  rcases A8b ho with rfl | rfl | rfl | rfl | rfl | rfl | rfl | rfl | rfl | rfl | rfl | rfl | rfl | rfl | rfl | rfl | rfl | rfl | rfl | rfl | rfl | rfl | rfl | rfl | rfl | rfl | rfl | rfl | rfl <;>
  (simp [frm, B2l, B9a, A2S, A1P, A1i, low, high, B9P, B3d, A6I, mm2] at h
   refine ⟨fun x hx => ?_, ?_, ?_, ?_⟩
   ·simp [rds, A1S, A9y] at hx <;> omega
   all_goals (simp [rds, A2N] <;> omega))
theorem A6n (i : Ins) : (∀ x ∈ (D3 i).1, 0 ≤ x ∧ x < 4096) ∧ -1 ≤ (D3 i).2 ∧ (D3 i).2 ≤ 4096 ∧ ((D3 i).2 = -1 ∨ i.b = -1 ∨ i.c = -1) := by
 unfold D3
 by_cases h : chk i = 0
 rotate_left
 ·rw [if_neg h]; simp
 rw [if_pos h]
 have h0 := A7r h
 unfold chk at h
 cases ho : A2S i.op with
 | false => rw [ho] at h; simp at h
 | true =>
  obtain ⟨op, a, b, c, d⟩ := i
  simp only at h ho h0 ⊢
  rcases A8b ho with rfl | rfl | rfl | rfl | rfl | rfl | rfl | rfl | rfl | rfl | rfl | rfl | rfl | rfl | rfl | rfl | rfl | rfl | rfl | rfl | rfl | rfl | rfl | rfl | rfl | rfl | rfl | rfl | rfl <;>
  (simp [frm, B2l, B9a, A2S, A1P, A1i, low, high, B9P, B3d, A6I, mm2] at h
   refine ⟨fun x hx => ?_, ?_, ?_, ?_⟩
   ·simp [wrs, A1S, A9y] at hx <;> omega
   all_goals (simp [wrs, A2N] <;> omega))
-- EV: Ins.v, Ins.row
theorem i9 (a n : Int) (ha : -100000 ≤ a ∧ a ≤ 100000) (hn : n ≤ 100000) : Pure Tryz.prog 76 [.int .i64 a, .int .i64 n] (.tup [.isl ((G4 a n).1.map zrw), .int .i64 (G4 a n).2]) := by
 refine Pure.of 1 (A4.enter A0r (Nat.le_of_ble_eq_true rfl) ?_)
 refine Run.go 100 ?_
 by_cases h : n < 0
 ·rw [A9u h]
  simp -implicitDefEqProofs only [go_sem, Ins.v, Ins.row, B3, h, List.map_nil]
 ·rw [C0i h]
  simp -implicitDefEqProofs only [go_sem, Ins.v, Ins.row, B3, h]
  refine Run.roundsK (fun (x : Nat × Nat × Nat) => ⟨[(12, .int .i64 x.1), (11, .int .i64 n), (6, .sl (76 * 10000 + 20) x.2.1 0 (A4M a x.1).length), (0, .int .i64 a)], [((76 * 10000 + 20), x.2.1, .rows 1 ((A4M a x.1).map zrw))], x.2.2⟩)
   (fun x => x.1 ≤ n.toNat) (fun x => n.toNat - x.1) (0, 0, 1) ?_ (by simp only; omega) ?_
  ·refine .trans (.fresh (76 * 10000 + 20) 1 _ _ _) (.turn id ?_ (.at 0 rfl rfl (.refl _) trivial))
   exact ⟨.refl _, .refl _, .nils, .refl _, trivial⟩
  rintro ⟨k, st, m⟩ hk ih
  simp only at hk ⊢
  have hz : ((k + 1 : Nat) : Int) = (k : Int) + 1 := by omega
  have hl := B2E a k
  refine Run.unf A8M (Run.go 100 ?_)
  by_cases c : (k : Int) < n
  ·simp -implicitDefEqProofs only [go_sem, Ins.v, Ins.row, c]
   refine ⟨by omega, by omega, by omega, ?_⟩
   refine ih _ (k + 1, m, m + 1) (by simp only; omega) (by simp only; omega) (D1.wk ?_)
   simp only [hz, B1w, List.map_append, List.length_append, List.map_cons, List.map_nil, List.length_cons, List.length_nil, zrw]
   simp -implicitDefEqProofs only [go_sem, Ins.v, Ins.row]
  ·have e : k = n.toNat := by omega
   subst e
   simp -implicitDefEqProofs only [go_sem, Ins.v, Ins.row, c]
   exact A4X _ _ _
theorem B0n : ∀ {l : List Int} {a b : Int}, Asc l → (∀ x ∈ l, a ≤ x) → (∀ x ∈ l, x < b) → (l.length : Int) ≤ max (b - a) 0
 | [], a, b, _, _, _ => by simp; omega
 | x :: l, a, b, h, h1, h2 => by
  obtain ⟨h3, h4⟩ := List.pairwise_cons.1 h
  have := B0n (a := x + 1) (b := b) h4 (fun y hy => by have := h3 y hy; omega) (fun y hy => h2 y (List.mem_cons_of_mem _ hy))
  have hx := h1 x List.mem_cons_self
  have hx2 := h2 x List.mem_cons_self
  simp only [List.length_cons]
  omega
theorem B2Q (zs : List Int) (m : Nat) : (((Y4 zs ++ List.replicate m 0).map zrw).take (Y4 zs).length) = (Y4 zs).map zrw := M8 (O9 zs) m
theorem T4 (l : List Int) : C6 (l.map zrw) 1 = True := eq_true fun r hr => by obtain ⟨y, _, rfl⟩ := List.mem_map.1 hr; rfl
theorem C1d (l : List Int) : (l.map zrw).map (fun r => r.map (V.sub J2)) = l.map zrw := A4X 0 [] l
theorem B4O (zs : List Int) {m : Nat} (hl : zs.length = m) (hm : 0 < m) (hB : m ≤ 100000) (b st n : Nat) :
  A4 Tryz.prog 75 [.sl b st 0 m] [(b, st, .rows 1 (zs.map zrw))] n (fun r h' _ => r = .sl b st 0 (Y4 zs).length ∧ h' = [(b, st, .rows 1 ((Y4 zs ++ List.replicate (m - (Y4 zs).length) 0).map zrw))]) := by
 refine A4.enter A2D (Nat.le_of_ble_eq_true rfl) ?_
 refine Run.go 100 ?_
 simp -implicitDefEqProofs only [go_sem, Ins.v, Ins.row, B3]
 refine A4.at [0] [] (A7L zs hl hm hB _ _ _) rfl rfl ?_
 rintro r h' n' hn ⟨rfl, rfl⟩
 simp -implicitDefEqProofs only [go_sem, Ins.v, Ins.row]
 refine A4.at [0] [] (i6 (O9 zs) (m := m) (by simp [O9, hl]) hm hB _ _ _) rfl rfl ?_
 rintro r h' n' hn ⟨rfl, rfl⟩
 simp -implicitDefEqProofs only [go_sem, Ins.v, Ins.row, Y4]
-- EV: Ins.v, Ins.row
theorem B0W (i : Ins) : Pure Tryz.prog 59 [i.v] (.tup [.isl ((reads i).1.map zrw), .int .i64 (reads i).2]) := by
 refine Pure.of 1 (A4.enter s7 (Nat.le_of_ble_eq_true rfl) ?_)
 refine Run.go 100 ?_
 simp -implicitDefEqProofs only [go_sem, Ins.v, Ins.row, B3]
 refine A4.pureF (A3P i) (by simp -implicitDefEqProofs only [go_sem, Ins.v, Ins.row]) ?_
 by_cases hc : chk i = 0
 rotate_left
 ·rw [show reads i = ([], -1) from if_neg hc]
  simp -implicitDefEqProofs only [go_sem, Ins.v, Ins.row, hc, List.map_nil]
 ·rw [show reads i = rds i from if_pos hc, hc]
  have h0 := A7r hc
  simp -implicitDefEqProofs only [go_sem, Ins.v, Ins.row]
  repeat' (first | refine And.intro ?_ ?_ | refine fun h => ?_)
  all_goals first
   | omega
   | (simp [rds, zrw, *]; done)
   | (rw [show rds i = (Y4 [i.b, i.c], -1) by simp [rds, *]]
      refine A4.at [0] [] (B4O [i.b, i.c] (m := 2) rfl (by omega) (by omega) _ _ _) rfl rfl ?_
      rintro r h' n' hn ⟨rfl, rfl⟩
      simp -implicitDefEqProofs only [go_sem, Ins.v, Ins.row, B2Q, A4X, Nat.le_add_right]
      done)
   | (rw [show rds i = (Y4 [i.a, i.b, i.c], -1) by simp [rds, *]]
      refine A4.at [0] [] (B4O [i.a, i.b, i.c] (m := 3) rfl (by omega) (by omega) _ _ _) rfl rfl ?_
      rintro r h' n' hn ⟨rfl, rfl⟩
      simp -implicitDefEqProofs only [go_sem, Ins.v, Ins.row, B2Q, A4X, Nat.le_add_right]
      done)
   | (rw [show rds i = (i.a :: (G4 (i.a + 1) i.b).1, (G4 (i.a + 1) i.b).2) by simp [rds, *]]
      have hle : (G4 (i.a + 1) i.b).1.length ≤ 20000 := by have := C0a (i.a + 1) i.b; omega
      have hsz := T4 (G4 (i.a + 1) i.b).1
      refine A4.pureF (i9 (i.a + 1) i.b ⟨by omega, by omega⟩ (by omega)) (by simp -implicitDefEqProofs only [go_sem, Ins.v, Ins.row, C1d]) ?_
      simp -implicitDefEqProofs only [go_sem, Ins.v, Ins.row, A4X, hsz, List.length_map]
      refine ⟨by omega, ?_⟩
      rw [if_pos (by omega), List.take_of_length_le (by simp; omega)]
      exact congrArg V.isl (A4X 0 _ (i.a :: (G4 (i.a + 1) i.b).1)))
   | (rw [show rds i = G4 (i.a) i.b by simp [rds, *]]
      refine A4.pureF (i9 (i.a) i.b ⟨by omega, by omega⟩ (by omega)) (by simp -implicitDefEqProofs only [go_sem, Ins.v, Ins.row]) ?_
      simp -implicitDefEqProofs only [go_sem, Ins.v, Ins.row, A4X]
      done)
   | (rw [show rds i = G4 (i.a) 3 by simp [rds, *]]
      refine A4.pureF (i9 (i.a) 3 ⟨by omega, by omega⟩ (by omega)) (by simp -implicitDefEqProofs only [go_sem, Ins.v, Ins.row]) ?_
      simp -implicitDefEqProofs only [go_sem, Ins.v, Ins.row, A4X]
      done)
theorem A9I (i : Ins) : Pure Tryz.prog 60 [i.v] (.tup [.isl ((D3 i).1.map zrw), .int .i64 (D3 i).2]) := by
 refine Pure.of 1 (A4.enter A2q (Nat.le_of_ble_eq_true rfl) ?_)
 refine Run.go 100 ?_
 simp -implicitDefEqProofs only [go_sem, Ins.v, Ins.row, B3]
 refine A4.pureF (A3P i) (by simp -implicitDefEqProofs only [go_sem, Ins.v, Ins.row]) ?_
 by_cases hc : chk i = 0
 rotate_left
 ·rw [show D3 i = ([], -1) from if_neg hc]
  simp -implicitDefEqProofs only [go_sem, Ins.v, Ins.row, hc, List.map_nil]
 ·rw [show D3 i = wrs i from if_pos hc, hc]
  have h0 := A7r hc
  have h1 := C2h hc
  simp -implicitDefEqProofs only [go_sem, Ins.v, Ins.row]
  repeat' (first | refine And.intro ?_ ?_ | refine fun h => ?_)
  all_goals first
   | omega
   | (simp [wrs, zrw, *]; done)
   | (rw [show wrs i = G4 (i.a) (i.b - i.a + 1) by simp [wrs, *]]
      refine A4.pureF (i9 (i.a) (i.b - i.a + 1) ⟨by omega, by omega⟩ (by omega)) (by simp -implicitDefEqProofs only [go_sem, Ins.v, Ins.row]) ?_
      simp -implicitDefEqProofs only [go_sem, Ins.v, Ins.row, A4X]
      done)
   | (rw [show wrs i = G4 (i.a) (i.c) by simp [wrs, *]]
      refine A4.pureF (i9 (i.a) (i.c) ⟨by omega, by omega⟩ (by omega)) (by simp -implicitDefEqProofs only [go_sem, Ins.v, Ins.row]) ?_
      simp -implicitDefEqProofs only [go_sem, Ins.v, Ins.row, A4X]
      done)
   | (rw [show wrs i = G4 (i.a) (i.b) by simp [wrs, *]]
      refine A4.pureF (i9 (i.a) (i.b) ⟨by omega, by omega⟩ (by omega)) (by simp -implicitDefEqProofs only [go_sem, Ins.v, Ins.row]) ?_
      simp -implicitDefEqProofs only [go_sem, Ins.v, Ins.row, A4X]
      done)
   | (rw [show wrs i = G4 (i.a + 3) (i.c) by simp [wrs, *]]
      refine A4.pureF (i9 (i.a + 3) (i.c) ⟨by omega, by omega⟩ (by omega)) (by simp -implicitDefEqProofs only [go_sem, Ins.v, Ins.row]) ?_
      simp -implicitDefEqProofs only [go_sem, Ins.v, Ins.row, A4X]
      done)
end Go.Proofs.YtilggmmkmegefaaGreatDoor
