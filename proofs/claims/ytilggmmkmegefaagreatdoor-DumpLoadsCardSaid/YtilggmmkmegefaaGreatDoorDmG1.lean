/-
 What the reader of numbers, truths, texts and values takes from its bytes. No condition.
-/
import Derived.Test.YtilggmmkmegefaaGreatDoorDmG0
import Derived.Test.YtilggmmkmegefaaGreatDoorPan
import Derived.Test.YtilggmmkmegefaaGreatDoorCode
set_option linter.unusedVariables false
set_option linter.unusedSimpArgs false
set_option maxRecDepth 100000
set_option maxHeartbeats 0
namespace Go.Proofs.YtilggmmkmegefaaGreatDoor
open Go Go.Abs
attribute [local irreducible] A4 C3 Run
abbrev rD : Nat := (14 * 10000 + 8)
abbrev vN (k : Nat) : Nat := 35 * 10000 + k
-- EV: rD, vN
def rdH (R s : Nat) (l : List Int) : A2 := [(R, s, .rows 1 [[.isl (byR l)]])]
def C3K (e : Int) : Value := .iface 55 (.agg #[.int .i64 e])
def B6M {α : Type} (R s : Nat) (G : Rd α) (v : α → V) : Res := fun r h' _ => ∃ a l, G = .ok (a, l) ∧ r = v a ∧ h' = rdH R s l
def A8P {α : Type} (G : Rd α) : H0 := fun x h' _ => ∃ e, G = .error e ∧ x = C3K e ∧ h' = []
theorem j5 (R s n : Nat) (e : Int) : C3 Tryz.prog 22 [.ptr R s 0 0, .int .i64 e] [] n (fun _ _ _ => False) (fun x h' _ => x = C3K e ∧ h' = []) := by
 refine C3.enterK x6 (Nat.le_of_ble_eq_true rfl) fun Q pk hQ hpk => Run.go 100 ?_
 simp -implicitDefEqProofs only [go_sem, rD, vN, B3]
 subst hpk
 exact .none ⟨rfl, rfl⟩
theorem A6r (R s n : Nat) (k : Nat) (l : List Int) : C3 Tryz.prog 44 [.ptr R s 0 0, .int .i64 k] (rdH R s l) n (B6M R s (A6C k l) fun b => .isl (byR b)) (A8P (A6C k l)) := by
 have hR := T8 l
 have hS := B0O l
 have hT : (byR l).take k = byR (l.take k) := by simp [byR]
 have hD : (byR l).drop k = byR (l.drop k) := by simp [byR]
 refine C3.enterK y0 (Nat.le_of_ble_eq_true rfl) fun Q pk hQ hpk => Run.go 100 ?_
 unfold rdH
 by_cases c : (k : Int) > l.length
 ·simp -implicitDefEqProofs only [go_sem, rD, vN, B3, hR, hS, c]
  refine C3.at [] [] (j5 R s _ 5) rfl rfl (fun _ _ _ _ h => h.elim) ?_
  rintro x h' n' _ ⟨rfl, rfl⟩
  subst hpk
  exact .none ⟨5, if_neg (by omega), rfl, rfl⟩
 ·have c1 : (k ≤ l.length) = True := eq_true (by omega)
  have c2 : ((0 : Int) ≤ (k : Int)) = True := eq_true (by omega)
  have c3 : ((k : Int) ≤ (l.length : Int)) = True := eq_true (by omega)
  simp -implicitDefEqProofs only [go_sem, rD, vN, B3, hR, hS, c, c1, c2, c3, Int.toNat_natCast]
  subst hQ
  have e0 : ((k : Int) - 0).toNat = k := by omega
  have e1 : ((l.length : Int) - k).toNat = l.length - k := by omega
  refine ⟨Int.le_refl _, .is ⟨_, _, if_pos (by omega), ?_, ?_⟩⟩
  ·dsimp only
   rw [e0, hT]
  ·unfold rdH
   rw [hD, e1, List.take_of_length_le (by rw [T8, List.length_drop]; exact Nat.le_refl _)]
theorem B7l (R s n : Nat) (l : List Int) : C3 Tryz.prog 32 [.ptr R s 0 0] (rdH R s l) n (B6M R s (Y2 l) fun z => .int .i64 z) (A8P (Y2 l)) := by
 have ht := fun n => A6r R s n 8 l
 unfold Y2
 refine C3.enterK A0q (Nat.le_of_ble_eq_true rfl) fun Q pk hQ hpk => Run.go 100 ?_
 simp -implicitDefEqProofs only [go_sem, rD, vN, B3]
 refine C3.at [0] [] (ht _) rfl rfl ?_ ?_
 rotate_left
 ·rintro x h' n' _ ⟨e, h1, rfl, rfl⟩
  subst hpk
  exact .none ⟨e, by rw [h1]; rfl, rfl, rfl⟩
 rintro r h' n1 _ ⟨b, l1, h1, rfl, rfl⟩
 rw [h1, Rd.bind_ok] at hQ
 have hb := (V3 h1).2
 have hR := T8 b
 have hS := B0O b
 have hrow : ∀ k, k < 8 → (byR b)[k]? = some [.int .u8 (b.getD k 0)] := fun k hk => by
  unfold byR
  rw [List.getElem?_map, List.getD_eq_getElem?_getD, List.getElem?_eq_getElem (by omega)]
  rfl
 rw [hb] at hR
 dsimp only
 generalize byR b = BR at *
 simp -implicitDefEqProofs only [go_sem, rD, vN, hR]
 refine Run.rounds (fun (k : Nat) => ⟨[(9, .int .i64 k), (8, .int .i64 8), (7, .isl BR), (3, .int .u64 (orN b k))], rdH R s l1, n1⟩) (fun k => k ≤ 8) (fun k => 8 - k) 0 (by first | (simp -implicitDefEqProofs only [go_sem, rD, vN, rdH, orN]; done) | (simp -implicitDefEqProofs only [go_sem, rD, vN, rdH, orN]; simp)) (by omega) ?_
 intro k hk ih
 refine Run.unf A4W (Run.go 100 ?_)
 by_cases c : (k : Int) < 8
 ·have hr := hrow k (by omega)
  have k0 : ((0 : Int) ≤ (k : Int)) = True := eq_true (by omega)
  have k1 : (k < 8) = True := eq_true (by omega)
  simp -implicitDefEqProofs only [go_sem, rD, vN, c, hR, hS, hr, k0, k1, Option.some.injEq, forall_eq', Int.toNat_natCast]
  exact ⟨⟨by omega, by omega⟩, by omega, ⟨by omega, by omega⟩, ih _ (k + 1) (by omega) (by omega) (by first | (simp -implicitDefEqProofs only [go_sem, rD, vN, rdH, orN]; done) | (simp -implicitDefEqProofs only [go_sem, rD, vN, rdH, orN]; simp))⟩
 ·obtain rfl : k = 8 := by omega
  simp -implicitDefEqProofs only [go_sem, rD, vN, c]
  subst hQ
  exact .is ⟨_, _, rfl, rfl, rfl⟩
theorem B4N (R s n : Nat) (l : List Int) : C3 Tryz.prog 33 [.ptr R s 0 0] (rdH R s l) n (B6M R s (A3E l) fun t => .bool t) (A8P (A3E l)) := by
 have ht := fun n => A6r R s n 1 l
 unfold A3E
 refine C3.enterK n7 (Nat.le_of_ble_eq_true rfl) fun Q pk hQ hpk => Run.go 100 ?_
 simp -implicitDefEqProofs only [go_sem, rD, vN, B3]
 refine C3.at [0] [] (ht _) rfl rfl ?_ ?_
 rotate_left
 ·rintro x h' n' _ ⟨e, h1, rfl, rfl⟩
  subst hpk
  exact .none ⟨e, by rw [h1]; rfl, rfl, rfl⟩
 rintro r h' n1 _ ⟨b, l1, h1, rfl, rfl⟩
 rw [h1, Rd.bind_ok] at hQ hpk
 have hb := (V3 h1).2
 obtain ⟨c, rfl⟩ : ∃ c, b = [c] := by match b, hb with | [c], _ => exact ⟨c, rfl⟩
 simp only [List.getD_cons_zero] at hQ hpk
 by_cases c1 : c > 1
 ·simp -implicitDefEqProofs only [go_sem, rD, vN, byR, List.map_cons, List.map_nil, c1]
  refine C3.at [] [] (j5 R s _ 4) rfl rfl (fun _ _ _ _ h => h.elim) ?_
  rintro x h' n' _ ⟨rfl, rfl⟩
  subst hpk
  exact .none ⟨4, if_pos c1, rfl, rfl⟩
 ·simp -implicitDefEqProofs only [go_sem, rD, vN, byR, List.map_cons, List.map_nil, c1]
  subst hQ
  exact .is ⟨_, _, if_neg c1, rfl, rfl⟩
theorem C2g (R s n : Nat) (l : List Int) : C3 Tryz.prog 34 [.ptr R s 0 0] (rdH R s l) n (B6M R s (B7s l) fun k => .int .i64 k) (A8P (B7s l)) := by
 have ht := fun n => B7l R s n l
 unfold B7s
 refine C3.enterK f8 (Nat.le_of_ble_eq_true rfl) fun Q pk hQ hpk => Run.go 100 ?_
 simp -implicitDefEqProofs only [go_sem, rD, vN, B3]
 refine C3.at [0] [] (ht _) rfl rfl ?_ ?_
 rotate_left
 ·rintro x h' n' _ ⟨e, h1, rfl, rfl⟩
  subst hpk
  exact .none ⟨e, by rw [h1]; rfl, rfl, rfl⟩
 rintro r h' n1 _ ⟨z, l1, h1, rfl, rfl⟩
 rw [h1, Rd.bind_ok] at hQ hpk
 have hR := T8 l1
 by_cases c1 : z < 0
 ·simp -implicitDefEqProofs only [go_sem, rD, vN, c1]
  refine C3.at [] [] (j5 R s _ 4) rfl rfl (fun _ _ _ _ h => h.elim) ?_
  rintro x h' n' _ ⟨rfl, rfl⟩
  subst hpk
  exact .none ⟨4, if_pos c1, rfl, rfl⟩
 by_cases c2 : z > (l1.length : Int)
 ·simp -implicitDefEqProofs only [go_sem, rD, vN, c1, c2, hR, rdH]
  refine C3.at [] [] (j5 R s _ 5) rfl rfl (fun _ _ _ _ h => h.elim) ?_
  rintro x h' n' _ ⟨rfl, rfl⟩
  subst hpk
  exact .none ⟨5, by rw [if_neg c1, if_pos c2], rfl, rfl⟩
 ·simp -implicitDefEqProofs only [go_sem, rD, vN, c1, c2, hR, rdH]
  subst hQ
  exact .is ⟨z.toNat, l1, by rw [if_neg c1, if_neg c2], by show V.int .i64 z = .int .i64 ((z.toNat : Nat) : Int); rw [Int.toNat_of_nonneg (by omega)], rfl⟩
theorem B3r : ∀ b : List Int, B4U (some (byR b)) = some (.str (B2o b)) := by
 have key : ∀ b : List Int, A8X (byR b) = some (B2o b) := by
  intro b
  induction b with
  | nil => rfl
  | cons c r ih =>
   show A8X ([.int .u8 c] :: byR r) = _
   rw [A8X, ih]
   rfl
 intro b
 rw [B4U, key]
theorem C1m (R s n : Nat) (l : List Int) : C3 Tryz.prog 31 [.ptr R s 0 0] (rdH R s l) n (B6M R s (B2k l) fun t => .str t) (A8P (B2k l)) := by
 have ht := fun n => C2g R s n l
 have hk := fun n k l => A6r R s n k l
 unfold B2k
 refine C3.enterK A0K (Nat.le_of_ble_eq_true rfl) fun Q pk hQ hpk => Run.go 100 ?_
 simp -implicitDefEqProofs only [go_sem, rD, vN, B3]
 refine C3.at [0] [] (ht _) rfl rfl ?_ ?_
 rotate_left
 ·rintro x h' n' _ ⟨e, h1, rfl, rfl⟩
  subst hpk
  exact .none ⟨e, by rw [h1]; rfl, rfl, rfl⟩
 rintro r h' n1 _ ⟨k, l1, h1, rfl, rfl⟩
 rw [h1, Rd.bind_ok] at hQ hpk
 simp -implicitDefEqProofs only [go_sem, rD, vN]
 refine C3.at [0] [] (hk _ k l1) rfl rfl ?_ ?_
 rotate_left
 ·rintro x h' n' _ ⟨e, h1, rfl, rfl⟩
  subst hpk
  exact .none ⟨e, by rw [h1]; rfl, rfl, rfl⟩
 rintro r h' n2 _ ⟨b, l2, h2, rfl, rfl⟩
 rw [h2, Rd.bind_ok] at hQ hpk
 have hbs := B3r b
 dsimp only
 generalize byR b = BR at *
 simp -implicitDefEqProofs only [go_sem, rD, vN, hbs]
 subst hQ
 exact .is ⟨_, _, rfl, rfl, rfl⟩
theorem C6P (s n : Nat) (l : List Int) (hl : M6 l) : C3 Tryz.prog 35 [.ptr rD s 0 0] (rdH rD s l) n (B6M rD s (B2r l) fun v => .agg v.row) (A8P (B2r l)) := by
 have ht := fun n => A6r rD s n 1 l
 have htr := fun n l => B4N rD s n l
 have hnu := fun n l => B7l rD s n l
 have hst := fun n l => C1m rD s n l
 unfold B2r
 refine C3.enterK q9 (Nat.le_of_ble_eq_true rfl) fun Q pk hQ hpk => Run.go 100 ?_
 unfold rdH
 simp -implicitDefEqProofs only [go_sem, rD, vN, B3]
 refine C3.at [1] [0] (ht _) rfl rfl ?_ ?_
 rotate_left
 ·rintro x h' n' _ ⟨e, h1, rfl, rfl⟩
  subst hpk
  exact .none ⟨e, by rw [h1]; rfl, rfl, rfl⟩
 rintro r h' n1 _ ⟨b, l1, h1, rfl, rfl⟩
 rw [h1, Rd.bind_ok] at hQ hpk
 have hb := (V3 h1).2
 obtain ⟨c, rfl⟩ : ∃ c, b = [c] := by match b, hb with | [c], _ => exact ⟨c, rfl⟩
 simp only [List.getD_cons_zero] at hQ hpk
 obtain ⟨rfl, _⟩ := V3 h1
 have hc := hl c (by simp)
 unfold isB at hc
 have hw : IntKind.i64.wrap c = c := by rw [B3B]; omega
 by_cases c0 : c = 0
 ·rw [if_pos c0] at hQ hpk
  subst c0
  simp -implicitDefEqProofs only [go_sem, rD, vN, byR, List.map_cons, List.map_nil, hw, rdH]
  subst hQ
  exact .to (h2 := rdH rD s l1) ⟨_, _, rfl, rfl, rfl⟩ (.turn id ⟨.refl _, trivial⟩ (by first | exact .at 2 rfl rfl (.refl _) (.of fun e he => by cases he) | exact .at 1 rfl rfl (.refl _) (.of fun e he => by cases he)))
 rw [if_neg c0] at hQ hpk
 by_cases c1 : c = 1
 ·rw [if_pos c1] at hQ hpk
  subst c1
  simp -implicitDefEqProofs only [go_sem, rD, vN, byR, List.map_cons, List.map_nil, hw, rdH]
  refine C3.at [1] [0, 2] (htr _ l1) rfl rfl ?_ ?_
  rotate_left
  ·rintro x h' n' _ ⟨e, h1, rfl, rfl⟩
   subst hpk
   exact .none ⟨e, by rw [h1]; rfl, rfl, rfl⟩
  rintro r h' n2 _ ⟨t, l2, h2, rfl, rfl⟩
  rw [h2, Rd.bind_ok] at hQ
  cases t <;>
  ·simp -implicitDefEqProofs only [go_sem, rD, vN, rdH]
   subst hQ
   exact .to (h2 := rdH rD s l2) ⟨_, _, rfl, rfl, rfl⟩ (.turn id ⟨.refl _, trivial⟩ (by first | exact .at 2 rfl rfl (.refl _) (.of fun e he => by cases he) | exact .at 1 rfl rfl (.refl _) (.of fun e he => by cases he)))
 rw [if_neg c1] at hQ hpk
 by_cases c2 : c = 2
 ·rw [if_pos c2] at hQ hpk
  subst c2
  simp -implicitDefEqProofs only [go_sem, rD, vN, byR, List.map_cons, List.map_nil, hw, rdH]
  refine C3.at [1] [0, 2] (hnu _ l1) rfl rfl ?_ ?_
  rotate_left
  ·rintro x h' n' _ ⟨e, h1, rfl, rfl⟩
   subst hpk
   exact .none ⟨e, by rw [h1]; rfl, rfl, rfl⟩
  rintro r h' n2 _ ⟨p, l2, h2, rfl, rfl⟩
  rw [h2, Rd.bind_ok] at hQ hpk
  simp -implicitDefEqProofs only [go_sem, rD, vN, rdH]
  refine C3.at [1] [0, 2] (hnu _ l2) rfl rfl ?_ ?_
  rotate_left
  ·rintro x h' n' _ ⟨e, h1, rfl, rfl⟩
   subst hpk
   exact .none ⟨e, by rw [h1]; rfl, rfl, rfl⟩
  rintro r h' n3 _ ⟨q, l3, h3, rfl, rfl⟩
  rw [h3, Rd.bind_ok] at hQ hpk
  simp -implicitDefEqProofs only [go_sem, rD, vN, rdH]
  subst hQ
  exact .to (h2 := rdH rD s l3) ⟨_, _, rfl, rfl, rfl⟩ (.turn id ⟨.refl _, trivial⟩ (by first | exact .at 2 rfl rfl (.refl _) (.of fun e he => by cases he) | exact .at 1 rfl rfl (.refl _) (.of fun e he => by cases he)))
 rw [if_neg c2] at hQ hpk
 by_cases c3 : c = 3
 ·rw [if_pos c3] at hQ hpk
  subst c3
  simp -implicitDefEqProofs only [go_sem, rD, vN, byR, List.map_cons, List.map_nil, hw, rdH]
  refine C3.at [1] [0, 2] (hst _ l1) rfl rfl ?_ ?_
  rotate_left
  ·rintro x h' n' _ ⟨e, h1, rfl, rfl⟩
   subst hpk
   exact .none ⟨e, by rw [h1]; rfl, rfl, rfl⟩
  rintro r h' n2 _ ⟨p, l2, h2, rfl, rfl⟩
  rw [h2, Rd.bind_ok] at hQ hpk
  simp -implicitDefEqProofs only [go_sem, rD, vN, rdH]
  subst hQ
  exact .to (h2 := rdH rD s l2) ⟨_, _, rfl, rfl, rfl⟩ (.turn id ⟨.refl _, trivial⟩ (by first | exact .at 2 rfl rfl (.refl _) (.of fun e he => by cases he) | exact .at 1 rfl rfl (.refl _) (.of fun e he => by cases he)))
 ·rw [if_neg c3] at hQ hpk
  simp -implicitDefEqProofs only [go_sem, rD, vN, byR, List.map_cons, List.map_nil, hw, c0, c1, c2, c3, rdH]
  refine C3.at [] [] (j5 rD s _ 4) rfl rfl (fun _ _ _ _ h => h.elim) ?_
  rintro x h' n' _ ⟨rfl, rfl⟩
  subst hpk
  exact .none ⟨4, rfl, rfl, rfl⟩
end Go.Proofs.YtilggmmkmegefaaGreatDoor
