/-
 The registers read and written. No condition.
-/
import Derived.Test.YtoanghfeednogaaGreatDoorOpT
import Derived.Test.YtoanghfeednogaaGreatDoorSetM
import Derived.Test.YtoanghfeednogaaGreatDoorCode
import Derived.Test.YtoanghfeednogaaGreatDoorOpc3
set_option linter.unusedVariables false
set_option linter.unusedSimpArgs false
set_option maxRecDepth 100000
set_option maxHeartbeats 0
namespace Go.Proofs.YtoanghfeednogaaGreatDoor
open Go.Abs
attribute [local irreducible] A2 Run
-- EV: Ins.v, Ins.row
attribute [local go_sem] Ins.v Ins.row
def G6 (a n : Int) : List Int × Int := if n < 0 then ([], a) else (A5c a n.toNat, -1)
def rds (i : Ins) : List Int × Int :=
 if i.op = 1 ∨ i.op = 6 ∨ i.op = 8 ∨ i.op = 11 ∨ i.op = 12 then ([i.b], -1)
 else if i.op = 9 ∨ i.op = 13 then (Z6 [i.b, i.c], -1)
 else if i.op = 10 then (Z6 [i.a, i.b, i.c], -1)
 else if i.op = 15 ∨ i.op = 28 then ([i.a], -1)
 else if i.op = 16 ∨ i.op = 17 ∨ i.op = 21 then (i.a :: (G6 (i.a + 1) i.b).1, (G6 (i.a + 1) i.b).2)
 else if i.op = 18 then G6 i.a i.b
 else if i.op = 23 ∨ i.op = 24 ∨ i.op = 25 then G6 i.a 3
 else if i.op = 26 then ([i.a + 3], -1)
 else ([], -1)
def wrs (i : Ins) : List Int × Int :=
 if i.op = 1 ∨ i.op = 2 ∨ i.op = 4 ∨ i.op = 5 ∨ i.op = 7 ∨ i.op = 9 ∨ i.op = 12 ∨ i.op = 13 ∨ i.op = 20 ∨ i.op = 22 then ([i.a], -1)
 else if i.op = 3 then G6 i.a (i.b - i.a + 1)
 else if i.op = 11 then ([i.a, i.a + 1], -1)
 else if i.op = 16 then G6 i.a i.c
 else if i.op = 19 then G6 i.a i.b
 else if i.op = 23 then ([i.a + 3], -1)
 else if i.op = 24 then ([i.a, i.a + 3], -1)
 else if i.op = 25 then G6 (i.a + 3) i.c
 else if i.op = 26 then ([i.a + 2], -1)
 else ([], -1)
def reads (i : Ins) : List Int × Int := if chk i = 0 then rds i else ([], -1)
def C4 (i : Ins) : List Int × Int := if chk i = 0 then wrs i else ([], -1)
theorem C2I {i : Ins} (h : chk i = 0) :
  (i.op = 3 → 0 ≤ i.b - i.a + 1) ∧ (i.op = 25 → 1 ≤ i.c) := by
 unfold chk at h
 cases ho : A2L i.op with
 | false => rw [ho] at h; simp at h
 | true =>
  obtain ⟨op, a, b, c, d⟩ := i
  simp only at h ho ⊢
  refine ⟨?_, ?_⟩ <;> rintro rfl <;> simp [frm, B3G, C1g, A2L, A2w, A0M, low, high, C1u, B4m, A7w, mm2] at h <;> omega
theorem B0R {a n : Int} (h : n < 0) : G6 a n = ([], a) := if_pos h
theorem C2h {a n : Int} (h : ¬ n < 0) : G6 a n = (A5c a n.toNat, -1) := if_neg h
theorem C2g (a n : Int) : (G6 a n).1.length ≤ n.toNat := by unfold G6; split <;> simp [B4I]
theorem B0m (a n : Int) : Asc (G6 a n).1 := by
 unfold G6; split
 ·exact A6L
 ·exact B3Q _ _
theorem B0C {a n x : Int} : x ∈ (G6 a n).1 ↔ a ≤ x ∧ x < a + n := by
 unfold G6
 split
 ·simp; omega
 ·simp only [B4t]; omega
theorem C4W {x y : Int} (h : x < y) : Asc [x, y] := List.pairwise_cons.2 ⟨fun a ha => by rw [List.mem_singleton.1 ha]; exact h, B4X y⟩
theorem C4V (i : Ins) : Asc (rds i).1 := by
 unfold rds
 repeat' split
 all_goals first | exact B4X _ | exact B3P _ | exact B0m _ _ | exact A6L | skip
 exact List.pairwise_cons.2 ⟨fun a ha => by have := B0C.1 ha; omega, B0m _ _⟩
theorem C4X (i : Ins) : Asc (wrs i).1 := by
 unfold wrs
 repeat' split
 all_goals first | exact B4X _ | exact B3P _ | exact B0m _ _ | exact A6L | exact C4W (by omega)
theorem B0l (i : Ins) : Asc (reads i).1 := by unfold reads; split; exact C4V i; exact A6L
theorem B2i (i : Ins) : Asc (C4 i).1 := by unfold C4; split; exact C4X i; exact A6L
theorem A3A (a n : Int) : (G6 a n).2 = if n < 0 then a else -1 := by unfold G6; split <;> rfl
theorem A3x (i : Ins) : (∀ x ∈ (reads i).1, 0 ≤ x ∧ x < 4096) ∧ -1 ≤ (reads i).2 ∧ (reads i).2 ≤ 4096 ∧ ((reads i).2 = -1 ∨ i.b = -1) := by
 unfold reads
 by_cases h : chk i = 0
 rotate_left
 ·rw [if_neg h]; simp
 rw [if_pos h]
 have h0 := A7V h
 unfold chk at h
 cases ho : A2L i.op with
 | false => rw [ho] at h; simp at h
 | true =>
  obtain ⟨op, a, b, c, d⟩ := i
  simp only at h ho h0 ⊢
  rcases A9B ho with rfl | rfl | rfl | rfl | rfl | rfl | rfl | rfl | rfl | rfl | rfl | rfl | rfl | rfl | rfl | rfl | rfl | rfl | rfl | rfl | rfl | rfl | rfl | rfl | rfl | rfl | rfl | rfl | rfl <;>
  (simp [frm, B3G, C1g, A2L, A2w, A0M, low, high, C1u, B4m, A7w, mm2] at h
   refine ⟨fun x hx => ?_, ?_, ?_, ?_⟩
   ·simp [rds, A2z, B0C] at hx <;> omega
   all_goals (simp [rds, A3A] <;> omega))
theorem A3U (i : Ins) : (∀ x ∈ (C4 i).1, 0 ≤ x ∧ x < 4096) ∧ -1 ≤ (C4 i).2 ∧ (C4 i).2 ≤ 4096 ∧ ((C4 i).2 = -1 ∨ i.b = -1 ∨ i.c = -1) := by
 unfold C4
 by_cases h : chk i = 0
 rotate_left
 ·rw [if_neg h]; simp
 rw [if_pos h]
 have h0 := A7V h
 unfold chk at h
 cases ho : A2L i.op with
 | false => rw [ho] at h; simp at h
 | true =>
  obtain ⟨op, a, b, c, d⟩ := i
  simp only at h ho h0 ⊢
  rcases A9B ho with rfl | rfl | rfl | rfl | rfl | rfl | rfl | rfl | rfl | rfl | rfl | rfl | rfl | rfl | rfl | rfl | rfl | rfl | rfl | rfl | rfl | rfl | rfl | rfl | rfl | rfl | rfl | rfl | rfl <;>
  (simp [frm, B3G, C1g, A2L, A2w, A0M, low, high, C1u, B4m, A7w, mm2] at h
   refine ⟨fun x hx => ?_, ?_, ?_, ?_⟩
   ·simp [wrs, A2z, B0C] at hx <;> omega
   all_goals (simp [wrs, A3A] <;> omega))
-- EV: Ins.v, Ins.row
theorem p9 (a n : Int) (ha : -100000 ≤ a ∧ a ≤ 100000) (hn : n ≤ 100000) : Pure Tryz.prog 74 [.int .i64 a, .int .i64 n] (.tup [.isl ((G6 a n).1.map zrw), .int .i64 (G6 a n).2]) := by
 refine Pure.of 1 (A2.enter A0U (Nat.le_of_ble_eq_true rfl) ?_)
 refine Run.go 100 ?_
 by_cases h : n < 0
 ·rw [B0R h]
  simp -implicitDefEqProofs only [go_sem, A5, h, List.map_nil]
 ·rw [C2h h]
  simp -implicitDefEqProofs only [go_sem, A5, h]
  refine Run.roundsK (fun (x : Nat × Nat × Nat) => ⟨[(12, .int .i64 x.1), (11, .int .i64 n), (6, .sl (74 * 10000 + 20) x.2.1 0 (A5c a x.1).length), (0, .int .i64 a)], [((74 * 10000 + 20), x.2.1, .rows 1 ((A5c a x.1).map zrw))], x.2.2⟩)
   (fun x => x.1 ≤ n.toNat) (fun x => n.toNat - x.1) (0, 0, 1) ?_ (by simp only; omega) ?_
  ·refine .trans (.fresh (74 * 10000 + 20) 1 _ _ _) (.turn id ?_ (.at 0 rfl rfl (.refl _) trivial))
   exact ⟨.refl _, .refl _, .nils, .refl _, trivial⟩
  rintro ⟨k, st, m⟩ hk ih
  simp only at hk ⊢
  have hz : ((k + 1 : Nat) : Int) = (k : Int) + 1 := by omega
  have hl := B4I a k
  refine Run.unf A9E (Run.go 100 ?_)
  by_cases c : (k : Int) < n
  ·simp -implicitDefEqProofs only [go_sem, c]
   refine ⟨by omega, by omega, by omega, ?_⟩
   refine ih _ (k + 1, m, m + 1) (by simp only; omega) (by simp only; omega) (B7.wk ?_)
   simp only [hz, B3n, List.map_append, List.length_append, List.map_cons, List.map_nil, List.length_cons, List.length_nil, zrw]
   simp -implicitDefEqProofs only [go_sem]
  ·have e : k = n.toNat := by omega
   subst e
   simp -implicitDefEqProofs only [go_sem, c]
   exact A2K _ _ _
theorem A6K : ∀ {l : List Int} {a b : Int}, Asc l → (∀ x ∈ l, a ≤ x) → (∀ x ∈ l, x < b) → (l.length : Int) ≤ max (b - a) 0
 | [], a, b, _, _, _ => by simp; omega
 | x :: l, a, b, h, h1, h2 => by
  obtain ⟨h3, h4⟩ := List.pairwise_cons.1 h
  have := A6K (a := x + 1) (b := b) h4 (fun y hy => by have := h3 y hy; omega) (fun y hy => h2 y (List.mem_cons_of_mem _ hy))
  have hx := h1 x List.mem_cons_self
  have hx2 := h2 x List.mem_cons_self
  simp only [List.length_cons]
  omega
theorem B4x (zs : List Int) (m : Nat) : (((Z6 zs ++ List.replicate m 0).map zrw).take (Z6 zs).length) = (Z6 zs).map zrw := O6 (R6 zs) m
theorem O7 (l : List Int) : B6 (l.map zrw) 1 = True := eq_true fun r hr => by obtain ⟨y, _, rfl⟩ := List.mem_map.1 hr; rfl
theorem C4B (l : List Int) : (l.map zrw).map (fun r => r.map (V.sub C0)) = l.map zrw := A2K 0 [] l
theorem B7F (zs : List Int) {m : Nat} (hl : zs.length = m) (hm : 0 < m) (hB : m ≤ 100000) (b st n : Nat) :
  A2 Tryz.prog 73 [.sl b st 0 m] [(b, st, .rows 1 (zs.map zrw))] n (fun r h' _ => r = .sl b st 0 (Z6 zs).length ∧ h' = [(b, st, .rows 1 ((Z6 zs ++ List.replicate (m - (Z6 zs).length) 0).map zrw))]) := by
 refine A2.enter A2V (Nat.le_of_ble_eq_true rfl) ?_
 refine Run.go 100 ?_
 simp -implicitDefEqProofs only [go_sem, A5]
 refine A2.at [0] [] (A8y zs hl hm hB _ _ _) rfl rfl ?_
 rintro r h' n' hn ⟨rfl, rfl⟩
 simp -implicitDefEqProofs only [go_sem]
 refine A2.at [0] [] (p4 (R6 zs) (m := m) (by simp [R6, hl]) hm hB _ _ _) rfl rfl ?_
 rintro r h' n' hn ⟨rfl, rfl⟩
 simp -implicitDefEqProofs only [go_sem, Z6]
-- EV: Ins.v, Ins.row
theorem A8r (i : Ins) : Pure Tryz.prog 56 [i.v] (.tup [.isl ((reads i).1.map zrw), .int .i64 (reads i).2]) := by
 refine Pure.of 1 (A2.enter w7 (Nat.le_of_ble_eq_true rfl) ?_)
 refine Run.go 100 ?_
 simp -implicitDefEqProofs only [go_sem, A5]
 refine A2.pureF (A3W i) (by simp -implicitDefEqProofs only [go_sem]) ?_
 by_cases hc : chk i = 0
 rotate_left
 ·rw [show reads i = ([], -1) from if_neg hc]
  simp -implicitDefEqProofs only [go_sem, hc, List.map_nil]
 ·rw [show reads i = rds i from if_pos hc, hc]
  have h0 := A7V hc
  simp -implicitDefEqProofs only [go_sem]
  repeat' (first | refine And.intro ?_ ?_ | refine fun h => ?_)
  all_goals first
   | omega
   | (simp [rds, zrw, *]; done)
   | (rw [show rds i = (Z6 [i.b, i.c], -1) by simp [rds, *]]
      refine A2.at [0] [] (B7F [i.b, i.c] (m := 2) rfl (by omega) (by omega) _ _ _) rfl rfl ?_
      rintro r h' n' hn ⟨rfl, rfl⟩
      simp -implicitDefEqProofs only [go_sem, B4x, A2K, Nat.le_add_right]
      done)
   | (rw [show rds i = (Z6 [i.a, i.b, i.c], -1) by simp [rds, *]]
      refine A2.at [0] [] (B7F [i.a, i.b, i.c] (m := 3) rfl (by omega) (by omega) _ _ _) rfl rfl ?_
      rintro r h' n' hn ⟨rfl, rfl⟩
      simp -implicitDefEqProofs only [go_sem, B4x, A2K, Nat.le_add_right]
      done)
   | (rw [show rds i = (i.a :: (G6 (i.a + 1) i.b).1, (G6 (i.a + 1) i.b).2) by simp [rds, *]]
      have hle : (G6 (i.a + 1) i.b).1.length ≤ 20000 := by have := C2g (i.a + 1) i.b; omega
      have hsz := O7 (G6 (i.a + 1) i.b).1
      refine A2.pureF (p9 (i.a + 1) i.b ⟨by omega, by omega⟩ (by omega)) (by simp -implicitDefEqProofs only [go_sem, C4B]) ?_
      simp -implicitDefEqProofs only [go_sem, A2K, hsz, List.length_map]
      refine ⟨by omega, ?_⟩
      rw [if_pos (by omega), List.take_of_length_le (by simp; omega)]
      exact congrArg V.isl (A2K 0 _ (i.a :: (G6 (i.a + 1) i.b).1)))
   | (rw [show rds i = G6 (i.a) i.b by simp [rds, *]]
      refine A2.pureF (p9 (i.a) i.b ⟨by omega, by omega⟩ (by omega)) (by simp -implicitDefEqProofs only [go_sem]) ?_
      simp -implicitDefEqProofs only [go_sem, A2K]
      done)
   | (rw [show rds i = G6 (i.a) 3 by simp [rds, *]]
      refine A2.pureF (p9 (i.a) 3 ⟨by omega, by omega⟩ (by omega)) (by simp -implicitDefEqProofs only [go_sem]) ?_
      simp -implicitDefEqProofs only [go_sem, A2K]
      done)
theorem A6J (i : Ins) : Pure Tryz.prog 58 [i.v] (.tup [.isl ((C4 i).1.map zrw), .int .i64 (C4 i).2]) := by
 refine Pure.of 1 (A2.enter A2S (Nat.le_of_ble_eq_true rfl) ?_)
 refine Run.go 100 ?_
 simp -implicitDefEqProofs only [go_sem, A5]
 refine A2.pureF (A3W i) (by simp -implicitDefEqProofs only [go_sem]) ?_
 by_cases hc : chk i = 0
 rotate_left
 ·rw [show C4 i = ([], -1) from if_neg hc]
  simp -implicitDefEqProofs only [go_sem, hc, List.map_nil]
 ·rw [show C4 i = wrs i from if_pos hc, hc]
  have h0 := A7V hc
  have h1 := C2I hc
  simp -implicitDefEqProofs only [go_sem]
  repeat' (first | refine And.intro ?_ ?_ | refine fun h => ?_)
  all_goals first
   | omega
   | (simp [wrs, zrw, *]; done)
   | (rw [show wrs i = G6 (i.a) (i.b - i.a + 1) by simp [wrs, *]]
      refine A2.pureF (p9 (i.a) (i.b - i.a + 1) ⟨by omega, by omega⟩ (by omega)) (by simp -implicitDefEqProofs only [go_sem]) ?_
      simp -implicitDefEqProofs only [go_sem, A2K]
      done)
   | (rw [show wrs i = G6 (i.a) (i.c) by simp [wrs, *]]
      refine A2.pureF (p9 (i.a) (i.c) ⟨by omega, by omega⟩ (by omega)) (by simp -implicitDefEqProofs only [go_sem]) ?_
      simp -implicitDefEqProofs only [go_sem, A2K]
      done)
   | (rw [show wrs i = G6 (i.a) (i.b) by simp [wrs, *]]
      refine A2.pureF (p9 (i.a) (i.b) ⟨by omega, by omega⟩ (by omega)) (by simp -implicitDefEqProofs only [go_sem]) ?_
      simp -implicitDefEqProofs only [go_sem, A2K]
      done)
   | (rw [show wrs i = G6 (i.a + 3) (i.c) by simp [wrs, *]]
      refine A2.pureF (p9 (i.a + 3) (i.c) ⟨by omega, by omega⟩ (by omega)) (by simp -implicitDefEqProofs only [go_sem]) ?_
      simp -implicitDefEqProofs only [go_sem, A2K]
      done)
end Go.Proofs.YtoanghfeednogaaGreatDoor
