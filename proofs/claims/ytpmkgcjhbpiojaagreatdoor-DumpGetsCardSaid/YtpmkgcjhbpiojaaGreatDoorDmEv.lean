/-
 What the reference's reader of numbers, truths and texts takes from its bytes. No condition.
-/
import Derived.Test.YtpmkgcjhbpiojaaGreatDoorDmG1
import Derived.Test.YtpmkgcjhbpiojaaGreatDoorDmG2
set_option linter.unusedVariables false
set_option linter.unusedSimpArgs false
set_option maxRecDepth 100000
set_option maxHeartbeats 0
namespace Go.Proofs.YtpmkgcjhbpiojaaGreatDoor
open Go.Abs
attribute [local irreducible] A3 C2 Run
abbrev rE : Nat := (7 * 10000 + 36)
-- EV: rE
def rrH (s : Nat) (B : List Int) (k : Nat) (e : Int) : A2 := [(rE, s, .rows 3 [[.isl (byR B), .int .i64 k, .int .i64 e]])]
def At {α : Type} (B : List Int) (k : Nat) (e : Int) (G : Rd α) (f : List Int → Rd α) : Prop := (e = 0 → f (B.drop k) = G) ∧ (e ≠ 0 → G = .error e)
structure Rsp {α : Type} (B : List Int) (k : Nat) (e : Int) (f : List Int → Rd α) (x : α) (k' : Nat) (e' : Int) : Prop where
 le : k' ≤ B.length
 keep : e ≠ 0 → e' = e
 ok : e = 0 → e' = 0 → f (B.drop k) = .ok (x, B.drop k')
 err : e = 0 → e' ≠ 0 → f (B.drop k) = .error e'
def A9v {α : Type} (s : Nat) (B : List Int) (k : Nat) (e : Int) (f : List Int → Rd α) (v : α → V) : Res := fun r h' _ => ∃ x k' e', Rsp B k e f x k' e' ∧ r = v x ∧ h' = rrH s B k' e'
theorem At.step {α β : Type} {B : List Int} {k k' : Nat} {e e' : Int} {G : Rd β} {f : List Int → Rd α} {g : α → List Int → Rd β} {x : α} (h : At B k e G fun l => (f l).bind g) (hr : Rsp B k e f x k' e') : At B k' e' G (g x) := by
 by_cases c : e = 0
 ·have h1 : (f (B.drop k)).bind g = G := h.1 c
  by_cases c' : e' = 0
  ·rw [hr.ok c c', Rd.bind_ok] at h1
   exact ⟨fun _ => h1, fun h => (h c').elim⟩
  ·rw [hr.err c c'] at h1
   exact ⟨fun h => (c' h).elim, fun _ => h1.symm⟩
 ·have := hr.keep c
  subst this
  exact ⟨fun h => (c h).elim, fun _ => h.2 c⟩
theorem At.start {α : Type} (B : List Int) (k : Nat) (e : Int) (f : List Int → Rd α) : At B k e (if e = 0 then f (B.drop k) else .error e) f :=
 ⟨fun h => (if_pos h).symm, fun h => if_neg h⟩
theorem At.done {α : Type} {B : List Int} {k k' : Nat} {e e' : Int} {f : List Int → Rd α} {x : α} (hk : k' ≤ B.length) (h : At B k' e' (if e = 0 then f (B.drop k) else .error e) fun l => .ok (x, l)) : Rsp B k e f x k' e' := by
 by_cases c : e = 0
 ·rw [if_pos c] at h
  exact ⟨hk, fun h => (h c).elim, fun _ h2 => (h.1 h2).symm, fun _ h2 => h.2 h2⟩
 ·rw [if_neg c] at h
  refine ⟨hk, fun _ => ?_, fun h => (c h).elim, fun h => (c h).elim⟩
  by_cases c' : e' = 0
  ·have := h.1 c'; cases this
  ·have := h.2 c'; injection this with this; exact this.symm
theorem At.fail {α : Type} {B : List Int} {k k' : Nat} {G : Rd α} {z : Int} {f : List Int → Rd α} (hz : z ≠ 0) (h : At B k 0 G f) (hf : f (B.drop k) = .error z) (g : List Int → Rd α) : At B k' z G g :=
 ⟨fun h => (hz h).elim, fun _ => by rw [← h.1 rfl, hf]⟩
theorem At.dead {α : Type} {B : List Int} {k k' : Nat} {G : Rd α} {e : Int} {f g : List Int → Rd α} (he : e ≠ 0) (h : At B k e G f) : At B k' e G g := ⟨fun h => (he h).elim, fun _ => h.2 he⟩
def orE (e z : Int) : Int := if e = 0 then z else e
theorem A5b (s n : Nat) (B : List Int) (k : Nat) (e z : Int) : A3 Tryz.prog 27 [.ptr rE s 0 0, .int .i64 z] (rrH s B k e) n fun r h' n' => r = .tup [] ∧ h' = rrH s B k (orE e z) := by
 refine A3.enterK P0 (Nat.le_of_ble_eq_true rfl) fun Q hQ => Run.go 100 ?_
 unfold rrH
 by_cases c : e = 0
 ·rw [show orE e z = z from if_pos c] at hQ
  simp -implicitDefEqProofs only [go_sem, rE, A8, c]
  subst hQ
  exact .is ⟨rfl, rfl⟩
 ·rw [show orE e z = e from if_neg c] at hQ
  simp -implicitDefEqProofs only [go_sem, rE, A8, c]
  subst hQ
  exact .is ⟨rfl, rfl⟩
abbrev A6D (B : List Int) : Prop := K3 B ∧ B.length ≤ 10000000000
theorem A8b (s n : Nat) (B : List Int) (hB : A6D B) (k : Nat) (hk : k ≤ B.length) (e : Int) (m : Nat) (hm : m ≤ 1000000000000) : A3 Tryz.prog 50 [.ptr rE s 0 0, .int .i64 m] (rrH s B k e) n fun r h' n' => ∃ x k' e', Rsp B k e (A2E m) x k' e' ∧ (e' ≠ 0 → x = []) ∧ (e' = 0 → x.length = m) ∧ K3 x ∧ r = .isl (byR x) ∧ h' = rrH s B k' e' := by
 have hf := A5b s
 have hB2 := hB.2
 refine A3.enterK O9 (Nat.le_of_ble_eq_true rfl) fun Q hQ => Run.go 100 ?_
 have hR := G4 B
 have hS := A5a B
 have hT : ((byR B).drop k).take m = byR ((B.drop k).take m) := by unfold byR; rw [← List.map_drop, ← List.map_take]
 unfold rrH
 by_cases c : e = 0
 ·subst c
  by_cases c1 : (m : Int) > (B.length : Int) - k
  ·simp -implicitDefEqProofs only [go_sem, rE, A8, hR, c1]
   refine ⟨⟨by omega, by omega⟩, (hf _ B k 0 5).mono ?_⟩
   rintro r h' n1 ⟨rfl, rfl⟩
   simp -implicitDefEqProofs only [go_sem, rE, orE, rrH]
   subst hQ
   exact .to (h2 := rrH s B k 5) (n2 := n1) (r2 := .isl []) ⟨[], k, 5, ⟨hk, fun h => (h rfl).elim, fun _ h => by omega, fun _ _ => if_neg (by rw [List.length_drop]; omega)⟩, fun _ => rfl, fun h => by omega, (fun z hz => by cases hz), rfl, rfl⟩ (.turn id ⟨.nilI, trivial⟩ (.at 0 rfl rfl (.refl _) (.of fun e he => by cases he)))
  ·have e1 : ((k : Int) + m - m).toNat = k := by omega
   have e2 : ((k : Int) + m - ((k : Int) + m - m)).toNat = m := by omega
   simp -implicitDefEqProofs only [go_sem, rE, A8, hR, hS, c1, e1, e2, hT]
   subst hQ
   refine ⟨⟨by omega, by omega⟩, ⟨by omega, by omega⟩, ⟨by omega, by omega⟩, by omega, by omega, by omega, ?_⟩
   have hx : (B.drop k).take m = ((B.drop k).take m) := rfl
   refine .to (h2 := rrH s B (k + m) 0) (n2 := n) (r2 := .isl (byR ((B.drop k).take m))) ⟨(B.drop k).take m, k + m, 0, ⟨by omega, fun h => (h rfl).elim, fun _ _ => ?_, fun _ h => (h rfl).elim⟩, fun h => (h rfl).elim, fun _ => by rw [List.length_take, List.length_drop]; omega, fun z hz => hB.1 z (List.mem_of_mem_drop (List.mem_of_mem_take hz)), rfl, rfl⟩ (.turn id ⟨.refl _, trivial⟩ (.at 0 rfl rfl (.of_eq (by rw [Int.natCast_add])) (.of fun e he => by cases he)))
   unfold A2E
   rw [if_pos (by rw [List.length_drop]; omega), List.drop_drop]
 ·simp -implicitDefEqProofs only [go_sem, rE, A8, hR, c]
  subst hQ
  exact .to (h2 := rrH s B k e) (n2 := n) (r2 := .isl []) ⟨[], k, e, ⟨hk, fun _ => rfl, fun h => (c h).elim, fun h => (c h).elim⟩, fun _ => rfl, fun h => (c h).elim, (fun z hz => by cases hz), rfl, rfl⟩ (.turn id ⟨.nilI, trivial⟩ (.at 0 rfl rfl (.refl _) (.of fun e he => by cases he)))
theorem C5u {u c : Int} (hu : 0 ≤ u ∧ u < 72057594037927936) (hc : isB c) : R1 .or .u64 (shZ true .u64 u 8) (IntKind.u64.wrap c) = c + 256 * u := by
 unfold isB at hc
 obtain ⟨m, rfl⟩ := Int.eq_ofNat_of_zero_le hu.1
 obtain ⟨x, rfl⟩ := Int.eq_ofNat_of_zero_le hc.1
 have h3 := Nat.two_pow_add_eq_or_of_lt (i := 8) (b := x) (by omega) m
 have hs : shZ true .u64 (m : Int) 8 = ((2 ^ 8 * m : Nat) : Int) := by
  show (((m : Int) * 2 ^ 8) % (2 ^ 64 : Int)) = ((2 ^ 8 * m : Nat) : Int)
  omega
 have hw : IntKind.u64.wrap (x : Int) = (x : Int) := by show (x : Int) % (2 ^ 64 : Int) = x; omega
 rw [hs, hw]
 generalize hy : 2 ^ 8 * m = y at *
 unfold R1
 show IntKind.u64.wrap ((BitVec.ofInt 64 (y : Int) ||| BitVec.ofInt 64 (x : Int)).toNat : Int) = _
 rw [BitVec.toNat_or, BitVec.toNat_ofInt, BitVec.toNat_ofInt]
 have e1 : ((x : Int) % ((2 ^ 64 : Nat) : Int)).toNat = x := by omega
 have e2 : ((y : Int) % ((2 ^ 64 : Nat) : Int)).toNat = y := by omega
 rw [e1, e2, ← h3]
 show ((y + x : Nat) : Int) % (2 ^ 64 : Int) = _
 omega
theorem A4n (s n : Nat) (B : List Int) (hB : A6D B) (k : Nat) (hk : k ≤ B.length) (e : Int) : A3 Tryz.prog 29 [.ptr rE s 0 0] (rrH s B k e) n (A9v s B k e J0 fun z => .int .i64 z) := by
 have ht := fun n => A8b s n B hB k hk e 8 (by decide)
 refine A3.enterK K7 (Nat.le_of_ble_eq_true rfl) fun Q hQ => Run.go 100 ?_
 simp -implicitDefEqProofs only [go_sem, rE, A8]
 refine A3.at [0] [] (ht _) rfl rfl ?_
 rintro r h' n1 _ ⟨x, k', e', hr, h0, h8, hx, rfl, rfl⟩
 have hl8 : x.length ≤ 8 := by
  by_cases c : e' = 0
  ·rw [h8 c]; exact Nat.le_refl _
  ·rw [h0 c]; decide
 have hz : unL x = IntKind.i64.wrap (S2 x) := by
  by_cases c : e' = 0
  ·unfold unL; rw [B8S hx (h8 c)]
  ·rw [h0 c]; decide
 have hfin : Rsp B k e J0 (unL x) k' e' := At.done hr.le ((At.start B k e J0).step hr)
 have hR := G4 x
 have hS := A5a x
 have hrow : ∀ j, j < x.length → (byR x)[j]? = some [.int .u8 (x.getD j 0)] := fun j hj => by
  unfold byR
  rw [List.getElem?_map, List.getD_eq_getElem?_getD, List.getElem?_eq_getElem hj]
  rfl
 generalize byR x = BR at *
 simp -implicitDefEqProofs only [go_sem, rE, hR]
 refine ⟨⟨by omega, by omega⟩, ?_⟩
 refine Run.rounds (fun (j : Nat) => ⟨[(5, .int .i64 ((j : Int) - 1)), (4, .int .u64 (S2 (x.drop j))), (3, .isl BR)], rrH s B k' e', n1⟩) (fun j => j ≤ x.length) (fun j => j) x.length (by first | (simp -implicitDefEqProofs only [go_sem, rE, rrH, List.drop_length, S2]; done) | (simp -implicitDefEqProofs only [go_sem, rE, rrH, List.drop_length, S2]; simp)) (Nat.le_refl _) ?_
 intro j hj ih
 refine Run.unf V6 (Run.go 100 ?_)
 cases j with
 | zero =>
  simp -implicitDefEqProofs only [go_sem, rE]
  subst hQ
  exact .is ⟨unL x, k', e', hfin, by rw [hz], rfl⟩
 | succ j =>
  have e1 : ((j + 1 : Nat) : Int) - 1 = (j : Int) := by omega
  have hr := hrow j (by omega)
  have j0 : ((0 : Int) ≤ (j : Int)) = True := eq_true (by omega)
  have j1 : (j < x.length) = True := eq_true (by omega)
  have hd : x.drop j = x.getD j 0 :: x.drop (j + 1) := by rw [List.getD_eq_getElem?_getD, List.getElem?_eq_getElem (by omega)]; exact List.drop_eq_getElem_cons (by omega)
  have hv : S2 (x.drop j) = x.getD j 0 + 256 * S2 (x.drop (j + 1)) := by rw [hd, S2]
  have hc : isB (x.getD j 0) := by rw [List.getD_eq_getElem?_getD, List.getElem?_eq_getElem (by omega)]; exact hx _ (List.getElem_mem _)
  have hrg := A8q (x.drop (j + 1)) fun z hz => hx z (List.mem_of_mem_drop hz)
  have hu : 0 ≤ S2 (x.drop (j + 1)) ∧ S2 (x.drop (j + 1)) < 72057594037927936 := by
   refine ⟨hrg.1, Int.lt_of_lt_of_le hrg.2 ?_⟩
   rw [List.length_drop]
   have h7 : ∀ m : Nat, m ≤ 7 → (256 : Int) ^ m ≤ 72057594037927936 := by
    intro m hm
    obtain rfl | rfl | rfl | rfl | rfl | rfl | rfl | rfl : m = 0 ∨ m = 1 ∨ m = 2 ∨ m = 3 ∨ m = 4 ∨ m = 5 ∨ m = 6 ∨ m = 7 := by omega
    all_goals decide
   exact h7 _ (by omega)
  have hh := C5u hu hc
  have fin := fun s' => ih s' j (by omega) (by omega)
  rw [hv] at fin
  simp -implicitDefEqProofs only [go_sem, rE, e1, hR, hS, hr, j0, j1, hh, Option.some.injEq, forall_eq', Int.toNat_natCast]
  exact ⟨by omega, ⟨by omega, by omega⟩, fin _ (by first | (simp -implicitDefEqProofs only [go_sem, rE, rrH]; done) | (simp -implicitDefEqProofs only [go_sem, rE, rrH]; simp))⟩
theorem A6Q (s n : Nat) (B : List Int) (hB : A6D B) (k : Nat) (hk : k ≤ B.length) (e : Int) : A3 Tryz.prog 32 [.ptr rE s 0 0] (rrH s B k e) n fun r h' n' => ∃ x : Nat, ∃ k' e', Rsp B k e A9g x k' e' ∧ x ≤ B.length ∧ r = .int .i64 x ∧ h' = rrH s B k' e' := by
 have ht := fun n => A4n s n B hB k hk e
 have hf := fun n k e z => A5b s n B k e z
 refine A3.enterK M2 (Nat.le_of_ble_eq_true rfl) fun Q hQ => Run.go 100 ?_
 simp -implicitDefEqProofs only [go_sem, rE, A8]
 refine A3.at [0] [] (ht _) rfl rfl ?_
 rintro r h' n1 _ ⟨z, k', e', hr, rfl, rfl⟩
 have hA := (At.start B k e A9g).step hr
 have hR := G4 B
 have hk' := hr.le
 have hB2 := hB.2
 by_cases c : e' = 0
 ·subst c
  by_cases c1 : z < 0
  ·simp -implicitDefEqProofs only [go_sem, rE, c1]
   refine (hf _ k' 0 4).mono ?_
   rintro r h' n2 ⟨rfl, rfl⟩
   simp -implicitDefEqProofs only [go_sem, rE, orE, rrH]
   subst hQ
   exact .is ⟨0, k', 4, At.done hk' (hA.fail (by decide) (if_pos c1) _), Nat.zero_le _, rfl, rfl⟩
  by_cases c2 : z > (B.length : Int) - k'
  ·simp -implicitDefEqProofs only [go_sem, rE, c1, c2, rrH, hR]
   refine ⟨⟨by omega, by omega⟩, (hf _ k' 0 5).mono ?_⟩
   rintro r h' n2 ⟨rfl, rfl⟩
   simp -implicitDefEqProofs only [go_sem, rE, orE, rrH]
   subst hQ
   exact .is ⟨0, k', 5, At.done hk' (hA.fail (by decide) (by rw [if_neg c1, if_pos (by rw [List.length_drop]; omega)]) _), Nat.zero_le _, rfl, rfl⟩
  ·simp -implicitDefEqProofs only [go_sem, rE, c1, c2, rrH, hR]
   subst hQ
   refine ⟨⟨by omega, by omega⟩, .is ⟨z.toNat, k', 0, At.done hk' ?_, by omega, by rw [Int.toNat_of_nonneg (by omega)], rfl⟩⟩
   refine ⟨fun h => ?_, fun h => (h rfl).elim⟩
   have h2 := hA.1 rfl
   dsimp only at h2 ⊢
   rw [if_neg c1, if_neg (by rw [List.length_drop]; omega)] at h2
   exact h2
 ·have hfin : Rsp B k e A9g 0 k' e' := At.done hk' (hA.dead c)
  by_cases c1 : z < 0
  ·simp -implicitDefEqProofs only [go_sem, rE, c1]
   refine (hf _ k' e' 4).mono ?_
   rintro r h' n2 ⟨rfl, rfl⟩
   simp -implicitDefEqProofs only [go_sem, rE, orE, rrH, c]
   subst hQ
   exact .is ⟨0, k', e', hfin, Nat.zero_le _, rfl, rfl⟩
  by_cases c2 : z > (B.length : Int) - k'
  ·simp -implicitDefEqProofs only [go_sem, rE, c1, c2, rrH, hR]
   refine ⟨⟨by omega, by omega⟩, (hf _ k' e' 5).mono ?_⟩
   rintro r h' n2 ⟨rfl, rfl⟩
   simp -implicitDefEqProofs only [go_sem, rE, orE, rrH, c]
   subst hQ
   exact .is ⟨0, k', e', hfin, Nat.zero_le _, rfl, rfl⟩
  ·simp -implicitDefEqProofs only [go_sem, rE, c1, c2, rrH, hR, c]
   subst hQ
   exact ⟨⟨by omega, by omega⟩, .is ⟨0, k', e', hfin, Nat.zero_le _, rfl, rfl⟩⟩
def B0Q (most : Int) (l : List Int) : Rd Int := (A2E 1 l).bind fun b l => if most < b.getD 0 0 then .error 4 else .ok (b.getD 0 0, l)
theorem B3q (s n : Nat) (B : List Int) (hB : A6D B) (k : Nat) (hk : k ≤ B.length) (e most : Int) : A3 Tryz.prog 30 [.ptr rE s 0 0, .int .i64 most] (rrH s B k e) n (A9v s B k e (B0Q most) fun z => .int .i64 z) := by
 have ht := fun n => A8b s n B hB k hk e 1 (by decide)
 have hf := fun n k e z => A5b s n B k e z
 refine A3.enterK N9 (Nat.le_of_ble_eq_true rfl) fun Q hQ => Run.go 100 ?_
 simp -implicitDefEqProofs only [go_sem, rE, A8]
 refine A3.at [0] [] (ht _) rfl rfl ?_
 rintro r h' n1 _ ⟨x, k', e', hr, h0, h8, hx, rfl, rfl⟩
 have hA := (At.start B k e (B0Q most)).step hr
 have hk' := hr.le
 by_cases c : e' = 0
 ·subst c
  have hb := h8 rfl
  obtain ⟨c, rfl⟩ : ∃ c, x = [c] := by match x, hb with | [c], _ => exact ⟨c, rfl⟩
  simp only [List.getD_cons_zero] at hA
  have hc := hx c (by simp)
  unfold isB at hc
  have hw : IntKind.i64.wrap c = c := by rw [B0U]; split <;> omega
  by_cases c1 : c > most
  ·simp -implicitDefEqProofs only [go_sem, rE, byR, List.map_cons, List.map_nil, hw, c1]
   refine (hf _ k' 0 4).mono ?_
   rintro r h' n2 ⟨rfl, rfl⟩
   simp -implicitDefEqProofs only [go_sem, rE, orE]
   subst hQ
   exact .is ⟨0, k', 4, At.done hk' (hA.fail (by decide) (if_pos c1) _), rfl, rfl⟩
  ·simp -implicitDefEqProofs only [go_sem, rE, byR, List.map_cons, List.map_nil, hw, c1]
   subst hQ
   refine .is ⟨c, k', 0, At.done hk' ⟨fun h => ?_, fun h => (h rfl).elim⟩, rfl, rfl⟩
   have h2 := hA.1 rfl
   dsimp only at h2 ⊢
   rw [if_neg (show ¬ most < c from c1)] at h2
   exact h2
 ·obtain rfl := h0 c
  simp -implicitDefEqProofs only [go_sem, rE, byR, List.map_nil]
  subst hQ
  exact .is ⟨0, k', e', At.done hk' (hA.dead c), rfl, rfl⟩
theorem B3K (s n : Nat) (B : List Int) (hB : A6D B) (k : Nat) (hk : k ≤ B.length) (e : Int) : A3 Tryz.prog 28 [.ptr rE s 0 0] (rrH s B k e) n (A9v s B k e A6g fun t => .str t) := by
 have ht := fun n => A6Q s n B hB k hk e
 have hB2 := hB.2
 refine A3.enterK Q6 (Nat.le_of_ble_eq_true rfl) fun Q hQ => Run.go 100 ?_
 simp -implicitDefEqProofs only [go_sem, rE, A8]
 refine A3.at [0] [] (ht _) rfl rfl ?_
 rintro r h' n1 _ ⟨m, k', e', hr, hm, rfl, rfl⟩
 have hA := (At.start B k e A6g).step hr
 have hk2 := fun n => A8b s n B hB k' hr.le e' m (by omega)
 simp -implicitDefEqProofs only [go_sem, rE]
 refine A3.at [0] [] (hk2 _) rfl rfl ?_
 rintro r h' n2 _ ⟨x, k2, e2, hr2, h0, h8, hx, rfl, rfl⟩
 have hA := hA.step hr2
 have hbs := A2b x
 generalize byR x = BR at *
 simp -implicitDefEqProofs only [go_sem, rE, hbs]
 subst hQ
 exact .is ⟨A7s x, k2, e2, At.done hr2.le hA, rfl, rfl⟩
abbrev eV (k : Nat) : Nat := 52 * 10000 + k
abbrev eI (k : Nat) : Nat := 51 * 10000 + k
-- EV: rE, eV, eI
theorem C0T {l : List Int} (hl : K3 l) : A3Z l = (B0Q 3 l).bind fun c l =>
 if c = 1 then (A0Y l).bind fun t l => .ok (⟨1, 0, 0, [], if t then 1 else 0⟩, l)
 else if c = 2 then (J0 l).bind fun p l => (J0 l).bind fun q l => .ok (⟨2, p, q, [], 0⟩, l)
 else if c = 3 then (A6g l).bind fun s l => .ok (⟨3, 0, 0, s, 0⟩, l)
 else .ok (⟨c, 0, 0, [], 0⟩, l) := by
 unfold A3Z B0Q
 cases h : A2E 1 l with
 | error e => rfl
 | ok y =>
  obtain ⟨b, r⟩ := y
  obtain ⟨rfl, hb⟩ := R0 h
  obtain ⟨c, rfl⟩ : ∃ c, b = [c] := by match b, hb with | [c], _ => exact ⟨c, rfl⟩
  have hc := hl c (by simp)
  unfold isB at hc
  simp only [Rd.bind_ok, List.getD_cons_zero]
  by_cases c3 : 3 < c
  ·rw [if_pos c3, Rd.bind_error, if_neg (by omega), if_neg (by omega), if_neg (by omega), if_neg (by omega)]
  ·rw [if_neg c3, Rd.bind_ok]
   by_cases c0 : c = 0
   ·subst c0; rfl
   by_cases c1 : c = 1
   ·subst c1; rfl
   by_cases c2 : c = 2
   ·subst c2; rfl
   obtain rfl : c = 3 := by omega
   rfl
theorem A7X (l : List Int) : A0Y l = (B0Q 1 l).bind fun c l => .ok (decide (c = 1), l) := by
 unfold A0Y B0Q
 cases A2E 1 l with
 | error e => rfl
 | ok y =>
  obtain ⟨b, r⟩ := y
  simp only [Rd.bind_ok]
  split
  ·rfl
  ·rfl
theorem C0A {m z : Int} {l r : List Int} (hl : K3 l) (h : B0Q m l = .ok (z, r)) : 0 ≤ z ∧ z ≤ m := by
 obtain ⟨b, l1, h1, h2⟩ := Rd.bind_inv h
 obtain ⟨rfl, hb⟩ := R0 h1
 obtain ⟨c, rfl⟩ : ∃ c, b = [c] := by match b, hb with | [c], _ => exact ⟨c, rfl⟩
 have hc := hl c (by simp)
 unfold isB at hc
 simp only [List.getD_cons_zero] at h2
 split at h2
 ·cases h2
 ·injection h2 with h2
  injection h2 with e1 e2
  omega
theorem B9J (s n : Nat) (B : List Int) (hB : A6D B) (k : Nat) (hk : k ≤ B.length) (e : Int) : A3 Tryz.prog 52 [.ptr rE s 0 0] (rrH s B k e) n (A9v s B k e A3Z fun v => .agg v.row) := by
 have hoc := fun n k (hk : k ≤ B.length) e m => B3q s n B hB k hk e m
 have hin := fun n k (hk : k ≤ B.length) e => A4n s n B hB k hk e
 have hst := fun n k (hk : k ≤ B.length) e => B3K s n B hB k hk e
 refine A3.enterK M9 (Nat.le_of_ble_eq_true rfl) fun Q hQ => Run.go 100 ?_
 unfold rrH
 simp -implicitDefEqProofs only [go_sem, rE, eV, eI, A8]
 have hA0 := At.start B k e A3Z
 obtain ⟨G, hG⟩ : ∃ G, (if e = 0 then A3Z (B.drop k) else .error e) = G := ⟨_, rfl⟩
 have hD : ∀ {x k' e'}, k' ≤ B.length → At B k' e' G (fun l => .ok (x, l)) → Rsp B k e A3Z x k' e' := fun h1 h2 => At.done h1 (hG ▸ h2)
 rw [hG] at hA0
 have hA : At B k e G fun l => (B0Q 3 l).bind fun c l =>
   if c = 1 then (A0Y l).bind fun t l => .ok (⟨1, 0, 0, [], if t then 1 else 0⟩, l)
   else if c = 2 then (J0 l).bind fun p l => (J0 l).bind fun q l => .ok (⟨2, p, q, [], 0⟩, l)
   else if c = 3 then (A6g l).bind fun s l => .ok (⟨3, 0, 0, s, 0⟩, l)
   else .ok (⟨c, 0, 0, [], 0⟩, l) := by
  refine ⟨fun h => ?_, hA0.2⟩
  rw [← hA0.1 h, C0T fun z hz => hB.1 z (List.mem_of_mem_drop hz)]
 clear hA0 hG
 refine A3.at [1] [0] (hoc _ k hk e 3) rfl rfl ?_
 rintro r h' n1 _ ⟨c, k1, e1, hr, rfl, rfl⟩
 replace hA := hA.step hr
 have l1 := hr.le
 have fin : ∀ (v : Kst) k' e', k' ≤ B.length → At B k' e' G (fun l => .ok (v, l)) → (∃ x k2 e2, Rsp B k e A3Z x k2 e2 ∧ V.agg v.row = .agg x.row ∧ rrH s B k' e' = rrH s B k2 e2) := fun v k' e' h1 h2 => ⟨v, k', e', hD h1 h2, rfl, rfl⟩
 by_cases c1 : c = 1
 ·simp only [if_pos c1] at hA
  subst c1
  simp -implicitDefEqProofs only [go_sem, rE, eV, eI, rrH]
  refine A3.at [1] [0, 2] (hoc _ k1 l1 e1 1) rfl rfl ?_
  rintro r h' n2 _ ⟨t, k2, e2, hr2, rfl, rfl⟩
  replace hA : At B k2 e2 G _ := At.step (f := B0Q 1) (g := fun c l => .ok (⟨1, 0, 0, [], if decide (c = 1) then 1 else 0⟩, l)) ⟨fun h => by
   have h2 := hA.1 h
   dsimp only at h2 ⊢
   rw [A7X] at h2
   rw [← h2]
   cases B0Q 1 (B.drop k1) <;> rfl, hA.2⟩ hr2
  have hA2 : At B k2 e2 G fun l => .ok (⟨1, 0, 0, [], t⟩, l) := ⟨fun h => by
   have h1 : e1 = 0 := Classical.byContradiction fun hc => by have := hr2.keep hc; omega
   have hz := C0A (fun z hz => hB.1 z (List.mem_of_mem_drop hz)) (hr2.ok h1 h)
   have h2 := hA.1 h
   dsimp only at h2 ⊢
   rw [← h2]
   by_cases ht : t = 1
   ·subst ht; rfl
   ·obtain rfl : t = 0 := by omega
    rfl, hA.2⟩
  simp -implicitDefEqProofs only [go_sem, rE, eV, eI, rrH]
  subst hQ
  exact .to (h2 := rrH s B k2 e2) (fin ⟨1, 0, 0, [], t⟩ k2 e2 hr2.le hA2) (.turn id ⟨.refl _, trivial⟩ (.at 2 rfl rfl (.refl _) (.of fun e he => by cases he)))
 simp only [if_neg c1] at hA
 by_cases c2 : c = 2
 ·simp only [if_pos c2] at hA
  subst c2
  simp -implicitDefEqProofs only [go_sem, rE, eV, eI, rrH]
  refine A3.at [1] [0, 2] (hin _ k1 l1 e1) rfl rfl ?_
  rintro r h' n2 _ ⟨p, k2, e2, hr2, rfl, rfl⟩
  replace hA := hA.step hr2
  simp -implicitDefEqProofs only [go_sem, rE, eV, eI, rrH]
  refine A3.at [1] [0, 2] (hin _ k2 hr2.le e2) rfl rfl ?_
  rintro r h' n3 _ ⟨q, k3, e3, hr3, rfl, rfl⟩
  replace hA := hA.step hr3
  simp -implicitDefEqProofs only [go_sem, rE, eV, eI, rrH]
  subst hQ
  exact .to (h2 := rrH s B k3 e3) (fin ⟨2, p, q, [], 0⟩ k3 e3 hr3.le hA) (.turn id ⟨.refl _, trivial⟩ (.at 2 rfl rfl (.refl _) (.of fun e he => by cases he)))
 simp only [if_neg c2] at hA
 by_cases c3 : c = 3
 ·simp only [if_pos c3] at hA
  subst c3
  simp -implicitDefEqProofs only [go_sem, rE, eV, eI, rrH]
  refine A3.at [1] [0, 2] (hst _ k1 l1 e1) rfl rfl ?_
  rintro r h' n2 _ ⟨p, k2, e2, hr2, rfl, rfl⟩
  replace hA := hA.step hr2
  simp -implicitDefEqProofs only [go_sem, rE, eV, eI, rrH]
  subst hQ
  exact .to (h2 := rrH s B k2 e2) (fin ⟨3, 0, 0, p, 0⟩ k2 e2 hr2.le hA) (.turn id ⟨.refl _, trivial⟩ (.at 2 rfl rfl (.refl _) (.of fun e he => by cases he)))
 ·simp only [if_neg c3] at hA
  simp -implicitDefEqProofs only [go_sem, rE, eV, eI, rrH, c1, c2, c3]
  subst hQ
  exact .to (h2 := rrH s B k1 e1) (fin ⟨c, 0, 0, [], 0⟩ k1 e1 l1 hA) (.turn id ⟨.refl _, trivial⟩ (.at 2 rfl rfl (.refl _) (.of fun e he => by cases he)))
theorem C0r (s n : Nat) (B : List Int) (hB : A6D B) (k : Nat) (hk : k ≤ B.length) (e : Int) : A3 Tryz.prog 51 [.ptr rE s 0 0] (rrH s B k e) n (A9v s B k e A7t fun v => .agg v.row) := by
 have hin := fun n k (hk : k ≤ B.length) e => A4n s n B hB k hk e
 refine A3.enterK O1 (Nat.le_of_ble_eq_true rfl) fun Q hQ => Run.go 100 ?_
 unfold rrH
 simp -implicitDefEqProofs only [go_sem, rE, eV, eI, A8]
 have hA := At.start B k e A7t
 obtain ⟨G, hG⟩ : ∃ G, (if e = 0 then A7t (B.drop k) else .error e) = G := ⟨_, rfl⟩
 have hD : ∀ {x k' e'}, k' ≤ B.length → At B k' e' G (fun l => .ok (x, l)) → Rsp B k e A7t x k' e' := fun h1 h2 => At.done h1 (hG ▸ h2)
 rw [hG] at hA
 unfold A7t at hA
 clear hG
 refine A3.at [1] [0] (hin _ k hk e) rfl rfl ?_
 rintro r h' n1 _ ⟨z1, k1, e1, hr1, rfl, rfl⟩
 replace hA := hA.step hr1
 simp -implicitDefEqProofs only [go_sem, rE, eV, eI, rrH]
 refine A3.at [1] [0, 2] (hin _ k1 hr1.le e1) rfl rfl ?_
 rintro r h' n2 _ ⟨z2, k2, e2, hr2, rfl, rfl⟩
 replace hA := hA.step hr2
 simp -implicitDefEqProofs only [go_sem, rE, eV, eI, rrH]
 refine A3.at [1] [0, 2] (hin _ k2 hr2.le e2) rfl rfl ?_
 rintro r h' n3 _ ⟨z3, k3, e3, hr3, rfl, rfl⟩
 replace hA := hA.step hr3
 simp -implicitDefEqProofs only [go_sem, rE, eV, eI, rrH]
 refine A3.at [1] [0, 2] (hin _ k3 hr3.le e3) rfl rfl ?_
 rintro r h' n4 _ ⟨z4, k4, e4, hr4, rfl, rfl⟩
 replace hA := hA.step hr4
 simp -implicitDefEqProofs only [go_sem, rE, eV, eI, rrH]
 refine A3.at [1] [0, 2] (hin _ k4 hr4.le e4) rfl rfl ?_
 rintro r h' n5 _ ⟨z5, k5, e5, hr5, rfl, rfl⟩
 replace hA := hA.step hr5
 simp -implicitDefEqProofs only [go_sem, rE, eV, eI, rrH]
 subst hQ
 exact .to (h2 := rrH s B k5 e5) ⟨⟨z1, z2, z3, z4, z5⟩, k5, e5, hD hr5.le hA, rfl, rfl⟩ (.turn id ⟨.refl _, trivial⟩ (.at 2 rfl rfl (.refl _) (.of fun e he => by cases he)))
abbrev eF (k : Nat) : Nat := 16 * 10000 + k
abbrev eL (k : Nat) : Nat := 31 * 10000 + k
-- EV: rE, eF, eL
theorem A7e {α β : Type} {f : List Int → Rd α} {q : Nat} {xs : List α} {K : List α → List Int → Rd β} : (fun l => (F4 f (q + 1) l).bind fun r l => K (xs ++ r) l) = fun l => (f l).bind fun x l => (F4 f q l).bind fun r l => K ((xs ++ [x]) ++ r) l := by
 funext l
 rw [F4]
 cases f l with
 | error e => rfl
 | ok y =>
  obtain ⟨a, r⟩ := y
  simp only [Rd.bind_ok]
  cases F4 f q r with
  | error e => rfl
  | ok w => show K (xs ++ a :: w.1) w.2 = K (xs ++ [a] ++ w.1) w.2; rw [List.append_assoc]; rfl
theorem A4q {α β : Type} {B : List Int} {k : Nat} {e : Int} {f : List Int → Rd α} {m : Nat} {xs : List α} {K : List α → List Int → Rd β} {G : Rd β} (h : At B k e G fun l => (F4 f m l).bind fun r l => K (xs ++ r) l) (hm : e = 0 → m = 0) : At B k e G (K xs) := by
 refine ⟨fun c => ?_, h.2⟩
 have h1 := h.1 c
 rw [hm c] at h1
 rw [← h1]
 show K xs _ = K (xs ++ []) _
 rw [List.append_nil]
theorem At.list {α β : Type} {B : List Int} {k : Nat} {e : Int} {f : List Int → Rd α} {K : List α → List Int → Rd β} {G : Rd β} (h : At B k e G fun l => (I1 f l).bind K) : At B k e G fun l => (A9g l).bind fun n l => (F4 f n l).bind fun r l => K ([] ++ r) l := by
 refine ⟨fun c => ?_, h.2⟩
 rw [← h.1 c]
 show Rd.bind (A9g (B.drop k)) (fun n l => (F4 f n l).bind fun r l => K ([] ++ r) l) = Rd.bind (Rd.bind (A9g (B.drop k)) fun n l => F4 f n l) K
 cases A9g (B.drop k) <;> rfl
theorem A8x {X Y : Prop} (main : X → Y) (x : X) : Y := main x
def kL2 (c : List Ins) (i : List Int) (v : List Kst) (l : List Int) : Rd (List Ins × List Int × List Kst) := .ok ((c, i, v), l)
def kL1 (c : List Ins) (i : List Int) (l : List Int) : Rd (List Ins × List Int × List Kst) := (I1 A3Z l).bind (kL2 c i)
def kL0 (c : List Ins) (l : List Int) : Rd (List Ins × List Int × List Kst) := (I1 J0 l).bind (kL1 c)
def A8h (l : List Int) : Rd (List Ins × List Int × List Kst) := (I1 A7t l).bind kL0
theorem B8c (s sp n : Nat) (B : List Int) (hB : A6D B) (k : Nat) (hk : k ≤ B.length) (e : Int) (c0 c1 c2 c3 c4 : V) : A3 Tryz.prog 31 [.ptr rE s 0 0, .ptr (eF 5) sp 0 0] (rrH s B k e ++ [(eF 5, sp, .rows 11 [[c0, c1, c2, c3, c4, .nils, .nils, .nils, .nils, .nils, .nils]])]) n
  fun r h' n' => r = .tup [] ∧ ∃ x k' e', Rsp B k e A8h x k' e' ∧ h' = rrH s B k' e' ++ [(eF 5, sp, .rows 11 [[c0, c1, c2, c3, c4, .isl (x.1.map Ins.row), .isl (x.2.1.map C8), .isl (x.2.2.map Kst.row), .nils, .nils, .nils]])] := by
 have hco := fun n k (hk : k ≤ B.length) e => A6Q s n B hB k hk e
 have hin := fun n k (hk : k ≤ B.length) e => A4n s n B hB k hk e
 have hIn := fun n k (hk : k ≤ B.length) e => C0r s n B hB k hk e
 have hVa := fun n k (hk : k ≤ B.length) e => B9J s n B hB k hk e
 have hB2 := hB.2
 refine A3.enterK M3 (Nat.le_of_ble_eq_true rfl) fun Q hQ => Run.go 100 ?_
 have hA0 := At.start B k e A8h
 obtain ⟨G, hG⟩ : ∃ G, (if e = 0 then A8h (B.drop k) else .error e) = G := ⟨_, rfl⟩
 have hD : ∀ {x k' e'}, k' ≤ B.length → At B k' e' G (fun l => .ok (x, l)) → Rsp B k e A8h x k' e' := fun h1 h2 => At.done h1 (hG ▸ h2)
 rw [hG] at hA0
 unfold A8h at hA0
 clear hG
 unfold rrH
 simp -implicitDefEqProofs only [go_sem, rE, eF, eL, A8]
 -- code
 refine A3.at [0] [1] (hco _ k hk e) rfl rfl ?_
 rintro r h' m0 _ ⟨N0, a0, f0, hr0, hN0, rfl, rfl⟩
 have hB0 := (At.list hA0).step hr0
 have la0 := hr0.le
 simp -implicitDefEqProofs only [go_sem, rE, eF, eL, rrH]
 refine Run.roundsK (fun (x : List Ins × Nat × Nat × Int × Nat × Nat) => ⟨[(4, .int .i64 (x.2.1 : Int)), (1, .ptr (eF 5) sp 0 0), (0, .ptr rE s 0 0)], [(rE, s, .rows 3 [[.isl (byR B), .int .i64 x.2.2.1, .int .i64 x.2.2.2.1]]), (eF 5, sp, .rows 11 [[c0, c1, c2, c3, c4, .sl (eL 28) x.2.2.2.2.1 0 x.1.length, .nils, .nils, .nils, .nils, .nils]]), (eL 28, x.2.2.2.2.1, .rows 5 (x.1.map Ins.row))], x.2.2.2.2.2⟩)
  (fun x => x.1.length + x.2.1 ≤ B.length ∧ x.2.2.1 ≤ B.length ∧ At B x.2.2.1 x.2.2.2.1 G fun l => (F4 A7t x.2.1 l).bind fun r l => kL0 (x.1 ++ r) l) (fun x => x.2.1) ([], N0, a0, f0, m0, m0 + 1) ?_ ⟨by simpa using hN0, la0, hB0⟩ ?_
 ·refine .trans (.fresh (eL 28) 5 _ _ _) (.turn id ⟨.refl _, .refl _, .refl _, trivial⟩ ?_)
  simp -implicitDefEqProofs only [go_sem, rE, eF, eL, Nat.reduceDiv]
  exact .at 1 rfl rfl (.refl _) (.at 2 rfl rfl (.row ⟨.refl _, .refl _, .refl _, .refl _, .refl _, .nils, .refl _, .refl _, .refl _, .refl _, .refl _, trivial⟩) (.at 0 rfl rfl (.refl _) (.of fun e he => by cases he)))
 rintro ⟨code, q, b, ee, st, mm⟩ ⟨hl, hb, hA⟩ lp
 dsimp only at hl hb hA lp ⊢
 by_cases cc : q = 0 ∨ ee ≠ 0
 rotate_left
 ·obtain ⟨q, rfl⟩ : ∃ t, q = t + 1 := ⟨q - 1, by omega⟩
  obtain rfl : ee = 0 := by omega
  have p0 : (((q + 1 : Nat) : Int) > 0) = True := eq_true (by omega)
  have p1 : ((q + 1 : Nat) : Int) - 1 = (q : Int) := by omega
  rw [A7e] at hA
  have hlt : (code.map Ins.row).length = code.length := List.length_map ..
  have hsz : C4 (code.map Ins.row) 5 = True := eq_true fun r hr => by obtain ⟨y, _, rfl⟩ := List.mem_map.1 hr; rfl
  have htk : (code.map Ins.row).take code.length = code.map Ins.row := List.take_of_length_le (by omega)
  have j1 : (code.length ≤ code.length) = True := eq_true (Nat.le_refl _)
  have j2 : (code.length ≤ 137438953471) = True := eq_true (by omega)
  have fin := fun x b2 e2 s2 m2 s' (hr : Rsp B b 0 A7t x b2 e2) => lp s' (code ++ [x], q, b2, e2, s2, m2) ⟨by simp; omega, hr.le, hA.step hr⟩ (by dsimp only; omega)
  dsimp only at fin
  simp only [List.map_append, List.map_cons, List.map_nil, List.length_append, List.length_cons, List.length_nil] at fin
  clear lp
  refine Run.unf J3 (Run.go 100 ?_)
  generalize code.map Ins.row = RR at *
  generalize code.length = kk at *
  simp -implicitDefEqProofs only [go_sem, rE, eF, eL, p0, hlt, hsz, htk, j1, j2, Nat.reduceDiv]
  refine ⟨?_, ?_⟩
  all_goals (
   refine A3.at [0] [1, 2] (hIn _ b hb 0) rfl rfl ?_
   rintro r h' w1 _ ⟨x, b2, e2, hr, rfl, rfl⟩
   simp -implicitDefEqProofs only [go_sem, rE, eF, eL, rrH, hlt, hsz, htk, j1, j2, p1, Nat.reduceDiv, Kst.row, Ins.row]
   exact ⟨⟨by omega, by omega⟩, fin x b2 e2 _ _ _ hr (.turn id ⟨.refl _, .refl _, .refl _, trivial⟩ (.at 2 rfl rfl (.refl _) (.at 0 rfl rfl (.refl _) (.at 1 rfl rfl (.refl _) (.of fun e he => by cases he)))))⟩)
 have hA1 := A4q hA (by omega)
 unfold kL0 at hA1
 clear lp hA
 refine Run.wk (s' := ⟨[(4, .int .i64 (q : Int)), (1, .ptr (eF 5) sp 0 0), (0, .ptr rE s 0 0)], [(rE, s, .rows 3 [[.isl (byR B), .int .i64 b, .int .i64 ee]]), (eF 5, sp, .rows 11 [[c0, c1, c2, c3, c4, .isl (code.map Ins.row), .nils, .nils, .nils, .nils, .nils]])], mm⟩)
  (.freeze (b := eL 28) (st := st) (sz := 5) (rs := code.map Ins.row) (by simp) ⟨.of (.refl _), .of (.refl _), .of (.refl _), trivial⟩
    (.at 0 rfl (by decide) (.of (.refl _)) (.at 1 rfl (by decide) (A3M.one ⟨.of (.refl _), .of (.refl _), .of (.refl _), .of (.refl _), .of (.refl _), Frz.all (by simp), .of (.refl _), .of (.refl _), .of (.refl _), .of (.refl _), .of (.refl _), trivial⟩) trivial))) ?_
 refine Run.unf J3 ?_
 have hcz : (((q : Int) > 0) = False) ∨ (((q : Int) > 0) = True ∧ ee ≠ 0) := by
  by_cases cz : q = 0
  ·exact .inl (eq_false (by omega))
  ·exact .inr ⟨eq_true (by omega), by omega⟩
 apply A8x
 ·intro h
  rcases hcz with p0 | ⟨p0, ce⟩
  all_goals (
   refine Run.go 5 ?_
   first | simp -implicitDefEqProofs only [go_sem, rE, eF, eL, p0, ce] | simp -implicitDefEqProofs only [go_sem, rE, eF, eL, p0]
   refine Run.keep [1, 0] ?_
   exact h)
 refine Run.go 100 ?_
 simp -implicitDefEqProofs only [go_sem, rE, eF, eL]
 -- lines
 refine A3.at [0] [1] (hco _ b hb ee) rfl rfl ?_
 rintro r h' m1 _ ⟨N1, a1, f1, hr1, hN1, rfl, rfl⟩
 have hB1 := (At.list hA1).step hr1
 have la1 := hr1.le
 simp -implicitDefEqProofs only [go_sem, rE, eF, eL, rrH]
 refine Run.roundsK (fun (x : List Int × Nat × Nat × Int × Nat × Nat) => ⟨[(5, .int .i64 (x.2.1 : Int)), (1, .ptr (eF 5) sp 0 0), (0, .ptr rE s 0 0)], [(rE, s, .rows 3 [[.isl (byR B), .int .i64 x.2.2.1, .int .i64 x.2.2.2.1]]), (eF 5, sp, .rows 11 [[c0, c1, c2, c3, c4, .isl (code.map Ins.row), .sl (eL 52) x.2.2.2.2.1 0 x.1.length, .nils, .nils, .nils, .nils]]), (eL 52, x.2.2.2.2.1, .rows 1 (x.1.map C8))], x.2.2.2.2.2⟩)
  (fun x => x.1.length + x.2.1 ≤ B.length ∧ x.2.2.1 ≤ B.length ∧ At B x.2.2.1 x.2.2.2.1 G fun l => (F4 J0 x.2.1 l).bind fun r l => kL1 code (x.1 ++ r) l) (fun x => x.2.1) ([], N1, a1, f1, m1, m1 + 1) ?_ ⟨by simpa using hN1, la1, hB1⟩ ?_
 ·refine .trans (.fresh (eL 52) 1 _ _ _) (.turn id ⟨.refl _, .refl _, .refl _, trivial⟩ ?_)
  simp -implicitDefEqProofs only [go_sem, rE, eF, eL, Nat.reduceDiv]
  exact .at 1 rfl rfl (.refl _) (.at 2 rfl rfl (.row ⟨.refl _, .refl _, .refl _, .refl _, .refl _, .refl _, .nils, .refl _, .refl _, .refl _, .refl _, trivial⟩) (.at 0 rfl rfl (.refl _) (.of fun e he => by cases he)))
 rintro ⟨lines, q, b, ee, st, mm⟩ ⟨hl, hb, hA⟩ lp
 dsimp only at hl hb hA lp ⊢
 by_cases cc : q = 0 ∨ ee ≠ 0
 rotate_left
 ·obtain ⟨q, rfl⟩ : ∃ t, q = t + 1 := ⟨q - 1, by omega⟩
  obtain rfl : ee = 0 := by omega
  have p0 : (((q + 1 : Nat) : Int) > 0) = True := eq_true (by omega)
  have p1 : ((q + 1 : Nat) : Int) - 1 = (q : Int) := by omega
  rw [A7e] at hA
  have hlt : (lines.map C8).length = lines.length := List.length_map ..
  have hsz : C4 (lines.map C8) 1 = True := eq_true fun r hr => by obtain ⟨y, _, rfl⟩ := List.mem_map.1 hr; rfl
  have htk : (lines.map C8).take lines.length = lines.map C8 := List.take_of_length_le (by omega)
  have j1 : (lines.length ≤ lines.length) = True := eq_true (Nat.le_refl _)
  have j2 : (lines.length ≤ 137438953471) = True := eq_true (by omega)
  have fin := fun x b2 e2 s2 m2 s' (hr : Rsp B b 0 J0 x b2 e2) => lp s' (lines ++ [x], q, b2, e2, s2, m2) ⟨by simp; omega, hr.le, hA.step hr⟩ (by dsimp only; omega)
  dsimp only at fin
  simp only [List.map_append, List.map_cons, List.map_nil, List.length_append, List.length_cons, List.length_nil] at fin
  clear lp
  refine Run.unf J7 (Run.go 100 ?_)
  generalize lines.map C8 = RR at *
  generalize lines.length = kk at *
  simp -implicitDefEqProofs only [go_sem, rE, eF, eL, p0, hlt, hsz, htk, j1, j2, Nat.reduceDiv]
  refine ⟨?_, ?_⟩
  all_goals (
   refine A3.at [0] [1, 2] (hin _ b hb 0) rfl rfl ?_
   rintro r h' w1 _ ⟨x, b2, e2, hr, rfl, rfl⟩
   simp -implicitDefEqProofs only [go_sem, rE, eF, eL, rrH, hlt, hsz, htk, j1, j2, p1, Nat.reduceDiv]
   exact ⟨⟨by omega, by omega⟩, fin x b2 e2 _ _ _ hr (.turn id ⟨.refl _, .refl _, .refl _, trivial⟩ (.at 2 rfl rfl (.refl _) (.at 0 rfl rfl (.refl _) (.at 1 rfl rfl (.refl _) (.of fun e he => by cases he)))))⟩)
 have hA2 := A4q hA (by omega)
 unfold kL1 at hA2
 clear lp hA
 refine Run.wk (s' := ⟨[(5, .int .i64 (q : Int)), (1, .ptr (eF 5) sp 0 0), (0, .ptr rE s 0 0)], [(rE, s, .rows 3 [[.isl (byR B), .int .i64 b, .int .i64 ee]]), (eF 5, sp, .rows 11 [[c0, c1, c2, c3, c4, .isl (code.map Ins.row), .isl (lines.map C8), .nils, .nils, .nils, .nils]])], mm⟩)
  (.freeze (b := eL 52) (st := st) (sz := 1) (rs := lines.map C8) (by simp) ⟨.of (.refl _), .of (.refl _), .of (.refl _), trivial⟩
    (.at 0 rfl (by decide) (.of (.refl _)) (.at 1 rfl (by decide) (A3M.one ⟨.of (.refl _), .of (.refl _), .of (.refl _), .of (.refl _), .of (.refl _), .of (.refl _), Frz.all (by simp), .of (.refl _), .of (.refl _), .of (.refl _), .of (.refl _), trivial⟩) trivial))) ?_
 refine Run.unf J7 ?_
 have hcz : (((q : Int) > 0) = False) ∨ (((q : Int) > 0) = True ∧ ee ≠ 0) := by
  by_cases cz : q = 0
  ·exact .inl (eq_false (by omega))
  ·exact .inr ⟨eq_true (by omega), by omega⟩
 apply A8x
 ·intro h
  rcases hcz with p0 | ⟨p0, ce⟩
  all_goals (
   refine Run.go 5 ?_
   first | simp -implicitDefEqProofs only [go_sem, rE, eF, eL, p0, ce] | simp -implicitDefEqProofs only [go_sem, rE, eF, eL, p0]
   refine Run.keep [1, 0] ?_
   exact h)
 refine Run.go 100 ?_
 simp -implicitDefEqProofs only [go_sem, rE, eF, eL]
 -- consts
 refine A3.at [0] [1] (hco _ b hb ee) rfl rfl ?_
 rintro r h' m2 _ ⟨N2, a2, f2, hr2, hN2, rfl, rfl⟩
 have hB2 := (At.list hA2).step hr2
 have la2 := hr2.le
 simp -implicitDefEqProofs only [go_sem, rE, eF, eL, rrH]
 refine Run.roundsK (fun (x : List Kst × Nat × Nat × Int × Nat × Nat) => ⟨[(6, .int .i64 (x.2.1 : Int)), (1, .ptr (eF 5) sp 0 0), (0, .ptr rE s 0 0)], [(rE, s, .rows 3 [[.isl (byR B), .int .i64 x.2.2.1, .int .i64 x.2.2.2.1]]), (eF 5, sp, .rows 11 [[c0, c1, c2, c3, c4, .isl (code.map Ins.row), .isl (lines.map C8), .sl (eL 76) x.2.2.2.2.1 0 x.1.length, .nils, .nils, .nils]]), (eL 76, x.2.2.2.2.1, .rows 5 (x.1.map Kst.row))], x.2.2.2.2.2⟩)
  (fun x => x.1.length + x.2.1 ≤ B.length ∧ x.2.2.1 ≤ B.length ∧ At B x.2.2.1 x.2.2.2.1 G fun l => (F4 A3Z x.2.1 l).bind fun r l => kL2 code lines (x.1 ++ r) l) (fun x => x.2.1) ([], N2, a2, f2, m2, m2 + 1) ?_ ⟨by simpa using hN2, la2, hB2⟩ ?_
 ·refine .trans (.fresh (eL 76) 5 _ _ _) (.turn id ⟨.refl _, .refl _, .refl _, trivial⟩ ?_)
  simp -implicitDefEqProofs only [go_sem, rE, eF, eL, Nat.reduceDiv]
  exact .at 1 rfl rfl (.refl _) (.at 2 rfl rfl (.row ⟨.refl _, .refl _, .refl _, .refl _, .refl _, .refl _, .refl _, .nils, .refl _, .refl _, .refl _, trivial⟩) (.at 0 rfl rfl (.refl _) (.of fun e he => by cases he)))
 rintro ⟨consts, q, b, ee, st, mm⟩ ⟨hl, hb, hA⟩ lp
 dsimp only at hl hb hA lp ⊢
 by_cases cc : q = 0 ∨ ee ≠ 0
 rotate_left
 ·obtain ⟨q, rfl⟩ : ∃ t, q = t + 1 := ⟨q - 1, by omega⟩
  obtain rfl : ee = 0 := by omega
  have p0 : (((q + 1 : Nat) : Int) > 0) = True := eq_true (by omega)
  have p1 : ((q + 1 : Nat) : Int) - 1 = (q : Int) := by omega
  rw [A7e] at hA
  have hlt : (consts.map Kst.row).length = consts.length := List.length_map ..
  have hsz : C4 (consts.map Kst.row) 5 = True := eq_true fun r hr => by obtain ⟨y, _, rfl⟩ := List.mem_map.1 hr; rfl
  have htk : (consts.map Kst.row).take consts.length = consts.map Kst.row := List.take_of_length_le (by omega)
  have j1 : (consts.length ≤ consts.length) = True := eq_true (Nat.le_refl _)
  have j2 : (consts.length ≤ 137438953471) = True := eq_true (by omega)
  have fin := fun x b2 e2 s2 m2 s' (hr : Rsp B b 0 A3Z x b2 e2) => lp s' (consts ++ [x], q, b2, e2, s2, m2) ⟨by simp; omega, hr.le, hA.step hr⟩ (by dsimp only; omega)
  dsimp only at fin
  simp only [List.map_append, List.map_cons, List.map_nil, List.length_append, List.length_cons, List.length_nil] at fin
  clear lp
  refine Run.unf J9 (Run.go 100 ?_)
  generalize consts.map Kst.row = RR at *
  generalize consts.length = kk at *
  simp -implicitDefEqProofs only [go_sem, rE, eF, eL, p0, hlt, hsz, htk, j1, j2, Nat.reduceDiv]
  refine ⟨?_, ?_⟩
  all_goals (
   refine A3.at [0] [1, 2] (hVa _ b hb 0) rfl rfl ?_
   rintro r h' w1 _ ⟨x, b2, e2, hr, rfl, rfl⟩
   simp -implicitDefEqProofs only [go_sem, rE, eF, eL, rrH, hlt, hsz, htk, j1, j2, p1, Nat.reduceDiv, Kst.row, Ins.row]
   exact ⟨⟨by omega, by omega⟩, fin x b2 e2 _ _ _ hr (.turn id ⟨.refl _, .refl _, .refl _, trivial⟩ (.at 2 rfl rfl (.refl _) (.at 0 rfl rfl (.refl _) (.at 1 rfl rfl (.refl _) (.of fun e he => by cases he)))))⟩)
 have hA3 := A4q hA (by omega)
 unfold kL2 at hA3
 clear lp hA
 refine Run.wk (s' := ⟨[(6, .int .i64 (q : Int)), (1, .ptr (eF 5) sp 0 0), (0, .ptr rE s 0 0)], [(rE, s, .rows 3 [[.isl (byR B), .int .i64 b, .int .i64 ee]]), (eF 5, sp, .rows 11 [[c0, c1, c2, c3, c4, .isl (code.map Ins.row), .isl (lines.map C8), .isl (consts.map Kst.row), .nils, .nils, .nils]])], mm⟩)
  (.freeze (b := eL 76) (st := st) (sz := 5) (rs := consts.map Kst.row) (by simp) ⟨.of (.refl _), .of (.refl _), .of (.refl _), trivial⟩
    (.at 0 rfl (by decide) (.of (.refl _)) (.at 1 rfl (by decide) (A3M.one ⟨.of (.refl _), .of (.refl _), .of (.refl _), .of (.refl _), .of (.refl _), .of (.refl _), .of (.refl _), Frz.all (by simp), .of (.refl _), .of (.refl _), .of (.refl _), trivial⟩) trivial))) ?_
 refine Run.unf J9 ?_
 have hcz : (((q : Int) > 0) = False) ∨ (((q : Int) > 0) = True ∧ ee ≠ 0) := by
  by_cases cz : q = 0
  ·exact .inl (eq_false (by omega))
  ·exact .inr ⟨eq_true (by omega), by omega⟩
 apply A8x
 ·intro h
  rcases hcz with p0 | ⟨p0, ce⟩
  all_goals (
   refine Run.go 5 ?_
   first | simp -implicitDefEqProofs only [go_sem, rE, eF, eL, p0, ce] | simp -implicitDefEqProofs only [go_sem, rE, eF, eL, p0]
   refine Run.keep [1, 0] ?_
   exact h)
 refine Run.go 100 ?_
 simp -implicitDefEqProofs only [go_sem, rE, eF, eL]
 subst hQ
 exact .is ⟨rfl, (code, lines, consts), b, ee, hD hb hA3, rfl⟩
end Go.Proofs.YtpmkgcjhbpiojaaGreatDoor
