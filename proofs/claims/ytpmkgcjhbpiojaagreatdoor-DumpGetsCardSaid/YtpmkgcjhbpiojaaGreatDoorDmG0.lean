/-
 What the bytes of a dump say: reading them, plain, and that writing is its inverse. No condition.
-/
import Derived.Test.YtpmkgcjhbpiojaaGreatDoorDmC
set_option linter.unusedVariables false
set_option linter.unusedSimpArgs false
set_option maxRecDepth 100000
set_option maxHeartbeats 800000
namespace Go.Proofs.YtpmkgcjhbpiojaaGreatDoor
open Go Go.Abs
abbrev Rd (α : Type) := Except Int (α × List Int)
def Rd.bind {α β : Type} (x : Rd α) (f : α → List Int → Rd β) : Rd β :=
 match x with
 | .ok r => f r.1 r.2
 | .error e => .error e
theorem Rd.bind_ok {α β : Type} (a : α) (l : List Int) (f : α → List Int → Rd β) : Rd.bind (.ok (a, l)) f = f a l := rfl
theorem Rd.bind_error {α β : Type} (e : Int) (f : α → List Int → Rd β) : Rd.bind (.error e) f = .error e := rfl
theorem Rd.bind_inv {α β : Type} {x : Rd α} {f : α → List Int → Rd β} {r : β × List Int} (h : x.bind f = .ok r) : ∃ a l, x = .ok (a, l) ∧ f a l = .ok r := by
 cases x with
 | ok y => exact ⟨y.1, y.2, rfl, h⟩
 | error e => cases h
def A2E (n : Nat) (l : List Int) : Rd (List Int) := if n ≤ l.length then .ok (l.take n, l.drop n) else .error 5
def orN (b : List Int) : Nat → Int
 | 0 => 0
 | k + 1 => R1 .or .u64 (orN b k) (shZ true .u64 (IntKind.u64.wrap (b.getD k 0)) (8 * k))
def unL (b : List Int) : Int := IntKind.i64.wrap (orN b 8)
def J0 (l : List Int) : Rd Int := (A2E 8 l).bind fun b l => .ok (unL b, l)
def A0Y (l : List Int) : Rd Bool := (A2E 1 l).bind fun b l => if 1 < b.getD 0 0 then .error 4 else .ok (decide (b.getD 0 0 = 1), l)
def A9g (l : List Int) : Rd Nat := (J0 l).bind fun z l => if z < 0 then .error 4 else if (l.length : Int) < z then .error 5 else .ok (z.toNat, l)
def A7s (b : List Int) : List UInt8 := b.map fun z => UInt8.ofNat z.toNat
def A6g (l : List Int) : Rd (List UInt8) := (A9g l).bind fun n l => (A2E n l).bind fun b l => .ok (A7s b, l)
def A3Z (l : List Int) : Rd Kst := (A2E 1 l).bind fun b l =>
 if b.getD 0 0 = 0 then .ok (⟨0, 0, 0, [], 0⟩, l)
 else if b.getD 0 0 = 1 then (A0Y l).bind fun t l => .ok (⟨1, 0, 0, [], if t then 1 else 0⟩, l)
 else if b.getD 0 0 = 2 then (J0 l).bind fun p l => (J0 l).bind fun q l => .ok (⟨2, p, q, [], 0⟩, l)
 else if b.getD 0 0 = 3 then (A6g l).bind fun s l => .ok (⟨3, 0, 0, s, 0⟩, l)
 else .error 4
def F4 {α : Type} (f : List Int → Rd α) : Nat → List Int → Rd (List α)
 | 0, l => .ok ([], l)
 | n + 1, l => (f l).bind fun x l => (F4 f n l).bind fun r l => .ok (x :: r, l)
def A7t (l : List Int) : Rd Ins := (J0 l).bind fun o l => (J0 l).bind fun a l => (J0 l).bind fun b l => (J0 l).bind fun c l => (J0 l).bind fun d l => .ok (⟨o, a, b, c, d⟩, l)
def upP (l : List Int) : Rd Upv := (A6g l).bind fun s l => (A0Y l).bind fun t l => (J0 l).bind fun i l => .ok (⟨s, t, i⟩, l)
def vrP (l : List Int) : Rd Vr := (A6g l).bind fun s l => (J0 l).bind fun a l => (J0 l).bind fun b l => (J0 l).bind fun c l => (J0 l).bind fun d l => .ok (⟨s, a, b, c, d⟩, l)
def I1 {α : Type} (f : List Int → Rd α) (l : List Int) : Rd (List α) := (A9g l).bind fun n l => F4 f n l
def A1z : Nat → List Int → Rd Fn
 | 0, _ => .error 3
 | d + 1, l => (A6g l).bind fun name l => (J0 l).bind fun line l => (J0 l).bind fun params l => (A0Y l).bind fun vararg l => (J0 l).bind fun regs l =>
  (I1 A7t l).bind fun code l => (I1 J0 l).bind fun lines l => (I1 A3Z l).bind fun consts l => (I1 (A1z d) l).bind fun protos l => (I1 upP l).bind fun ups l => (I1 vrP l).bind fun vars l =>
  .ok (⟨name, line, params, vararg, regs, code, lines, consts, protos, ups, vars⟩, l)
theorem C1W {k m x : Nat} (hx : x < 2 ^ k) (hk : k + 8 ≤ 64) (hm : m < 256) : R1 .or .u64 (x : Int) ((2 ^ k * m : Nat) : Int) = ((x + 2 ^ k * m : Nat) : Int) := by
 have h1 : 2 ^ k * m + x < 2 ^ (k + 8) := by
  rw [Nat.pow_add]
  have : 2 ^ k * m + 2 ^ k ≤ 2 ^ k * 2 ^ 8 := by rw [← Nat.mul_succ]; exact Nat.mul_le_mul_left _ (by omega)
  omega
 have h2 : (2 : Nat) ^ (k + 8) ≤ 2 ^ 64 := Nat.pow_le_pow_right (by decide) hk
 have h3 := Nat.two_pow_add_eq_or_of_lt hx m
 generalize hy : 2 ^ k * m = y at *
 unfold R1
 show IntKind.u64.wrap ((BitVec.ofInt 64 (x : Int) ||| BitVec.ofInt 64 (y : Int)).toNat : Int) = _
 rw [BitVec.toNat_or, BitVec.toNat_ofInt, BitVec.toNat_ofInt]
 have e1 : ((x : Int) % ((2 ^ 64 : Nat) : Int)).toNat = x := by omega
 have e2 : ((y : Int) % ((2 ^ 64 : Nat) : Int)).toNat = y := by omega
 rw [e1, e2, Nat.or_comm, ← h3]
 show ((y + x : Nat) : Int) % (2 ^ 64 : Int) = _
 omega
def S2 : List Int → Int
 | [] => 0
 | b :: r => b + 256 * S2 r
def dg : Nat → Int → List Int
 | 0, _ => []
 | k + 1, y => y % 256 :: dg k (y / 256)
theorem B8R : ∀ (k : Nat) (y : Int), dg (k + 1) y = dg k y ++ [y / 256 ^ k % 256]
 | 0, y => by simp [dg]
 | k + 1, y => by
  show y % 256 :: dg (k + 1) (y / 256) = (y % 256 :: dg k (y / 256)) ++ [_]
  rw [B8R k (y / 256), Int.ediv_ediv_of_nonneg (by decide), show (256 : Int) * 256 ^ k = 256 ^ (k + 1) by rw [Int.pow_succ, Int.mul_comm]]
  rfl
theorem B7z : ∀ b : List Int, K3 b → dg b.length (S2 b) = b
 | [], _ => rfl
 | b :: r, h => by
  have h1 := h b List.mem_cons_self
  have h2 := B7z r fun z hz => h z (List.mem_cons_of_mem _ hz)
  unfold isB at h1
  show (b + 256 * S2 r) % 256 :: dg r.length ((b + 256 * S2 r) / 256) = _
  rw [show (b + 256 * S2 r) % 256 = b by omega, show (b + 256 * S2 r) / 256 = S2 r by omega, h2]
theorem A8q : ∀ b : List Int, K3 b → 0 ≤ S2 b ∧ S2 b < 256 ^ b.length
 | [], _ => by decide
 | b :: r, h => by
  have h1 := h b List.mem_cons_self
  have h2 := A8q r fun z hz => h z (List.mem_cons_of_mem _ hz)
  unfold isB at h1
  rw [S2, List.length_cons, Int.pow_succ]
  generalize (256 : Int) ^ r.length = P at *
  omega
theorem C1C {b : List Nat} (hb : ∀ x ∈ b, x < 256) : ∀ k, k ≤ 8 → k ≤ b.length → orN (b.map fun (x : Nat) => (x : Int)) k = S2 ((b.take k).map fun (x : Nat) => (x : Int)) ∧ ∃ y : Nat, y < 2 ^ (8 * k) ∧ S2 ((b.take k).map fun (x : Nat) => (x : Int)) = y
 | 0, _, _ => ⟨rfl, 0, by decide, rfl⟩
 | k + 1, hk, hl => by
  obtain ⟨h1, y, hy, h2⟩ := C1C hb k (by omega) (by omega)
  obtain ⟨m, hm⟩ : ∃ m, b[k]? = some m := ⟨b[k], by simp⟩
  have hm2 := hb m (List.mem_of_getElem? hm)
  have e : (b.take (k + 1)).map (fun (x : Nat) => (x : Int)) = (b.take k).map (fun (x : Nat) => (x : Int)) ++ [(m : Int)] := by rw [List.take_add_one, hm]; simp
  have hv : ∀ (l : List Int) (z : Int), S2 (l ++ [z]) = S2 l + 256 ^ l.length * z := by
   intro l z
   induction l with
   | nil => show z + 256 * 0 = 0 + 1 * z; omega
   | cons a r ih =>
    show a + 256 * S2 (r ++ [z]) = a + 256 * S2 r + 256 ^ (r.length + 1) * z
    rw [ih, Int.pow_succ, Int.mul_add, Int.mul_comm (256 ^ r.length) 256, Int.mul_assoc, Int.add_assoc]
  have hw : IntKind.u64.wrap (m : Int) = (m : Int) := by show (m : Int) % (2 ^ 64 : Int) = m; omega
  have hs : shZ true .u64 (m : Int) ((8 : Int) * (k : Int)) = ((2 ^ (8 * k) * m : Nat) : Int) := by
   obtain rfl | rfl | rfl | rfl | rfl | rfl | rfl | rfl : k = 0 ∨ k = 1 ∨ k = 2 ∨ k = 3 ∨ k = 4 ∨ k = 5 ∨ k = 6 ∨ k = 7 := by omega
   ·show (((m : Int) * 2 ^ 0) % (2 ^ 64 : Int)) = ((2 ^ 0 * m : Nat) : Int); omega
   ·show (((m : Int) * 2 ^ 8) % (2 ^ 64 : Int)) = ((2 ^ 8 * m : Nat) : Int); omega
   ·show (((m : Int) * 2 ^ 16) % (2 ^ 64 : Int)) = ((2 ^ 16 * m : Nat) : Int); omega
   ·show (((m : Int) * 2 ^ 24) % (2 ^ 64 : Int)) = ((2 ^ 24 * m : Nat) : Int); omega
   ·show (((m : Int) * 2 ^ 32) % (2 ^ 64 : Int)) = ((2 ^ 32 * m : Nat) : Int); omega
   ·show (((m : Int) * 2 ^ 40) % (2 ^ 64 : Int)) = ((2 ^ 40 * m : Nat) : Int); omega
   ·show (((m : Int) * 2 ^ 48) % (2 ^ 64 : Int)) = ((2 ^ 48 * m : Nat) : Int); omega
   ·show (((m : Int) * 2 ^ 56) % (2 ^ 64 : Int)) = ((2 ^ 56 * m : Nat) : Int); omega
  have hg : (b.map fun (x : Nat) => (x : Int)).getD k 0 = (m : Int) := by rw [List.getD_eq_getElem?_getD, List.getElem?_map, hm]; rfl
  have hp : (256 : Int) ^ k = ((2 ^ (8 * k) : Nat) : Int) := by rw [Nat.pow_mul]; simp
  have e2 : S2 ((b.take (k + 1)).map fun (x : Nat) => (x : Int)) = ((y + 2 ^ (8 * k) * m : Nat) : Int) := by
   rw [e, hv, h2, List.length_map, List.length_take, Nat.min_eq_left (by omega), hp]
   simp
  refine ⟨?_, y + 2 ^ (8 * k) * m, ?_, e2⟩
  ·rw [orN, h1, h2, hg, hw, hs, C1W hy (by omega) hm2, e2]
  ·rw [show 8 * (k + 1) = 8 * k + 8 from rfl, Nat.pow_add]
   have : 2 ^ (8 * k) * m + 2 ^ (8 * k) ≤ 2 ^ (8 * k) * 2 ^ 8 := by rw [← Nat.mul_succ]; exact Nat.mul_le_mul_left _ (by omega)
   omega
theorem B8S {b : List Int} (hb : K3 b) (hl : b.length = 8) : orN b 8 = S2 b := by
 have e : b = (b.map Int.toNat).map fun (x : Nat) => (x : Int) := by
  rw [List.map_map]
  conv => lhs; rw [← List.map_id b]
  refine List.map_congr_left fun z hz => ?_
  have := hb z hz
  unfold isB at this
  simp only [Function.comp, id]
  omega
 have h := (C1C (b := b.map Int.toNat) (fun x hx => by
  obtain ⟨z, hz, rfl⟩ := List.mem_map.1 hx
  have := hb z hz
  unfold isB at this
  omega) 8 (Nat.le_refl _) (by simp [hl])).1
 rw [List.take_of_length_le (by simp [hl]), ← e] at h
 exact h
theorem C4F (z : Int) : ∀ k, uN z k = IntKind.u64.wrap z / 256 ^ k
 | 0 => by rw [uN]; simp
 | k + 1 => by
  rw [uN, C4F z k]
  show (IntKind.u64.wrap z / 256 ^ k).fdiv ((2 : Int) ^ 8) = _
  rw [Int.fdiv_eq_ediv_of_nonneg _ (by decide), Int.ediv_ediv_of_nonneg (Int.pow_nonneg (by decide)), Int.pow_succ]
  rfl
theorem B4u (z : Int) : ∀ k, A1B z k = dg k (IntKind.u64.wrap z)
 | 0 => rfl
 | k + 1 => by
  rw [A1B, B4u z k, C4F, B8R]
  rfl
theorem C1m (a : Int) : IntKind.u64.wrap a = a % 18446744073709551616 := rfl
theorem B0U (a : Int) : IntKind.i64.wrap a = if 9223372036854775807 < a % 18446744073709551616 then a % 18446744073709551616 - 18446744073709551616 else a % 18446744073709551616 := by
 have e : IntKind.i64.wrap a = (if (true && decide (a % (2 ^ 64 : Int) ≥ (2 ^ 63 : Int))) = true then a % (2 ^ 64 : Int) - (2 ^ 64 : Int) else a % (2 ^ 64 : Int)) := rfl
 rw [e]
 simp only [Bool.true_and, decide_eq_true_eq]
 split <;> split <;> omega
theorem C3K {b : List Int} (hb : K3 b) (hl : b.length = 8) : Y4 (unL b) = b := by
 have h := A8q b hb
 rw [hl] at h
 have h2 : S2 b < 18446744073709551616 := h.2
 have e : IntKind.u64.wrap (IntKind.i64.wrap (S2 b)) = S2 b := by rw [C1m, B0U]; omega
 unfold unL Y4
 rw [B8S hb hl, B4u, e, ← hl]
 exact B7z b hb
def C3x (z : Int) : Prop := -9223372036854775808 ≤ z ∧ z < 9223372036854775808
theorem R0 {n : Nat} {l b r : List Int} (h : A2E n l = .ok (b, r)) : l = b ++ r ∧ b.length = n := by
 unfold A2E at h
 split at h
 ·rename_i hn
  injection h with h
  injection h with h1 h2
  subst h1; subst h2
  exact ⟨(List.take_append_drop n l).symm, List.length_take_of_le hn⟩
 ·cases h
theorem K3.left {a b : List Int} (h : K3 (a ++ b)) : K3 a := fun z hz => h z (List.mem_append_left _ hz)
theorem K3.right {a b : List Int} (h : K3 (a ++ b)) : K3 b := fun z hz => h z (List.mem_append_right _ hz)
theorem C6q (b : List Int) : C3x (unL b) := by
 unfold unL C3x
 rw [B0U]
 omega
theorem C9 {l r : List Int} {z : Int} (hl : K3 l) (h : J0 l = .ok (z, r)) : l = Y4 z ++ r ∧ C3x z := by
 obtain ⟨b, l1, h1, h2⟩ := Rd.bind_inv h
 obtain ⟨rfl, hb⟩ := R0 h1
 injection h2 with h2
 injection h2 with e1 e2
 subst e1; subst e2
 exact ⟨by rw [C3K hl.left hb], C6q b⟩
theorem A2l {l r : List Int} {t : Bool} (hl : K3 l) (h : A0Y l = .ok (t, r)) : l = [if t then 1 else 0] ++ r := by
 obtain ⟨b, l1, h1, h2⟩ := Rd.bind_inv h
 obtain ⟨rfl, hb⟩ := R0 h1
 match b, hb with
 | [c], _ =>
  have hc := hl c (by simp)
  unfold isB at hc
  simp only [List.getD_cons_zero] at h2
  split at h2
  ·cases h2
  ·injection h2 with h2
   injection h2 with e1 e2
   subst e1; subst e2
   by_cases h1 : c = 1
   ·simp [h1]
   ·have : c = 0 := by omega
    simp [this]
theorem A1q {l r : List Int} {n : Nat} (hl : K3 l) (h : A9g l = .ok (n, r)) : l = Y4 n ++ r ∧ n ≤ r.length ∧ C3x n := by
 obtain ⟨z, l1, h1, h2⟩ := Rd.bind_inv h
 obtain ⟨rfl, hz⟩ := C9 hl h1
 split at h2
 ·cases h2
 split at h2
 ·cases h2
 ·injection h2 with h2
  injection h2 with e1 e2
  subst e1; subst e2
  rename_i c1 c2
  have e : ((z.toNat : Nat) : Int) = z := by omega
  rw [e]
  exact ⟨rfl, by omega, hz⟩
theorem A9i {b : List Int} (hb : K3 b) : (A7s b).map (fun u => (u.toNat : Int)) = b := by
 unfold A7s
 rw [List.map_map]
 conv => rhs; rw [← List.map_id b]
 refine List.map_congr_left fun z hz => ?_
 have := hb z hz
 unfold isB at this
 simp only [Function.comp, id, UInt8.toNat_ofNat']
 omega
theorem A2C {l r : List Int} {s : List UInt8} (hl : K3 l) (h : A6g l = .ok (s, r)) : l = B3U s ++ r := by
 obtain ⟨n, l1, h1, h2⟩ := Rd.bind_inv h
 obtain ⟨rfl, hn, _⟩ := A1q hl h1
 obtain ⟨b, l2, h3, h4⟩ := Rd.bind_inv h2
 obtain ⟨rfl, hb⟩ := R0 h3
 injection h4 with h4
 injection h4 with e1 e2
 subst e1; subst e2
 have hB := hl.right.left
 unfold B3U
 rw [A9i hB, show (A7s b).length = n from by unfold A7s; rw [List.length_map]; exact hb, List.append_assoc]
theorem B5A {l r : List Int} {v : Kst} (hl : K3 l) (h : A3Z l = .ok (v, r)) : l = B7B v ++ r := by
 obtain ⟨b, l1, h1, h2⟩ := Rd.bind_inv h
 obtain ⟨rfl, hb⟩ := R0 h1
 match b, hb with
 | [c], _ =>
  have hr := hl.right
  simp only [List.getD_cons_zero] at h2
  split at h2
  ·rename_i c0
   injection h2 with h2
   injection h2 with e1 e2
   subst e1; subst e2
   rw [c0]; rfl
  split at h2
  ·rename_i c0 c1
   obtain ⟨t, l2, h3, h4⟩ := Rd.bind_inv h2
   obtain rfl := A2l hr h3
   injection h4 with h4
   injection h4 with e1 e2
   subst e1; subst e2
   rw [c1]
   cases t <;> rfl
  split at h2
  ·rename_i c0 c1 c2
   obtain ⟨p, l2, h3, h4⟩ := Rd.bind_inv h2
   obtain ⟨rfl, _⟩ := C9 hr h3
   obtain ⟨q, l3, h5, h6⟩ := Rd.bind_inv h4
   obtain ⟨rfl, _⟩ := C9 hr.right h5
   injection h6 with h6
   injection h6 with e1 e2
   subst e1; subst e2
   rw [c2]
   unfold B7B
   simp only [List.append_assoc]
   rfl
  split at h2
  ·rename_i c0 c1 c2 c3
   obtain ⟨s, l2, h3, h4⟩ := Rd.bind_inv h2
   obtain rfl := A2C hr h3
   injection h4 with h4
   injection h4 with e1 e2
   subst e1; subst e2
   rw [c3]
   unfold B7B
   simp only [List.append_assoc]
   rfl
  ·cases h2
theorem B3F {α : Type} {f : List Int → Rd α} {w : α → List Int} (hf : ∀ l x r, K3 l → f l = .ok (x, r) → l = w x ++ r) : ∀ (n : Nat) (l r : List Int) (xs : List α), K3 l → F4 f n l = .ok (xs, r) → l = xs.flatMap w ++ r ∧ xs.length = n
 | 0, l, r, xs, _, h => by
  injection h with h
  injection h with e1 e2
  subst e1; subst e2
  exact ⟨rfl, rfl⟩
 | n + 1, l, r, xs, hl, h => by
  obtain ⟨x, l1, h1, h2⟩ := Rd.bind_inv h
  obtain rfl := hf _ _ _ hl h1
  obtain ⟨ys, l2, h3, h4⟩ := Rd.bind_inv h2
  obtain ⟨rfl, hn⟩ := B3F hf n _ _ _ hl.right h3
  injection h4 with h4
  injection h4 with e1 e2
  subst e1; subst e2
  exact ⟨by rw [List.flatMap_cons, List.append_assoc], by simp [hn]⟩
theorem A2f {α : Type} {f : List Int → Rd α} {w : α → List Int} (hf : ∀ l x r, K3 l → f l = .ok (x, r) → l = w x ++ r) {l r : List Int} {xs : List α} (hl : K3 l) (h : I1 f l = .ok (xs, r)) : l = Y4 xs.length ++ xs.flatMap w ++ r := by
 obtain ⟨n, l1, h1, h2⟩ := Rd.bind_inv h
 obtain ⟨rfl, _, _⟩ := A1q hl h1
 obtain ⟨rfl, rfl⟩ := B3F hf _ _ _ _ hl.right h2
 rw [List.append_assoc]
theorem C0P {l r : List Int} {i : Ins} (hl : K3 l) (h : A7t l = .ok (i, r)) : l = A3Y (B5m i) ++ r := by
 obtain ⟨z1, l1, h1, g1⟩ := Rd.bind_inv h; clear h
 obtain ⟨rfl, _⟩ := C9 hl h1
 obtain ⟨z2, l2, h2, g2⟩ := Rd.bind_inv g1; clear g1
 obtain ⟨rfl, _⟩ := C9 hl.right h2
 obtain ⟨z3, l3, h3, g3⟩ := Rd.bind_inv g2; clear g2
 obtain ⟨rfl, _⟩ := C9 hl.right.right h3
 obtain ⟨z4, l4, h4, g4⟩ := Rd.bind_inv g3; clear g3
 obtain ⟨rfl, _⟩ := C9 hl.right.right.right h4
 obtain ⟨z5, l5, h5, g5⟩ := Rd.bind_inv g4; clear g4
 obtain ⟨rfl, _⟩ := C9 hl.right.right.right.right h5
 injection g5 with g5
 injection g5 with e1 e2
 subst e1; subst e2
 simp [A3Y, B5m]
theorem C3l {l r : List Int} {u : Upv} (hl : K3 l) (h : upP l = .ok (u, r)) : l = upL u ++ r := by
 obtain ⟨z1, l1, h1, g1⟩ := Rd.bind_inv h; clear h
 obtain rfl := A2C hl h1
 obtain ⟨z2, l2, h2, g2⟩ := Rd.bind_inv g1; clear g1
 obtain rfl := A2l hl.right h2
 obtain ⟨z3, l3, h3, g3⟩ := Rd.bind_inv g2; clear g2
 obtain ⟨rfl, _⟩ := C9 hl.right.right h3
 injection g3 with g3
 injection g3 with e1 e2
 subst e1; subst e2
 simp [upL]
theorem C3b {l r : List Int} {u : Vr} (hl : K3 l) (h : vrP l = .ok (u, r)) : l = vrL u ++ r := by
 obtain ⟨z1, l1, h1, g1⟩ := Rd.bind_inv h; clear h
 obtain rfl := A2C hl h1
 obtain ⟨z2, l2, h2, g2⟩ := Rd.bind_inv g1; clear g1
 obtain ⟨rfl, _⟩ := C9 hl.right h2
 obtain ⟨z3, l3, h3, g3⟩ := Rd.bind_inv g2; clear g2
 obtain ⟨rfl, _⟩ := C9 hl.right.right h3
 obtain ⟨z4, l4, h4, g4⟩ := Rd.bind_inv g3; clear g3
 obtain ⟨rfl, _⟩ := C9 hl.right.right.right h4
 obtain ⟨z5, l5, h5, g5⟩ := Rd.bind_inv g4; clear g4
 obtain ⟨rfl, _⟩ := C9 hl.right.right.right.right h5
 injection g5 with g5
 injection g5 with e1 e2
 subst e1; subst e2
 simp [vrL, A3Y, C9B]
theorem A6p : ∀ (d : Nat) (l r : List Int) (p : Fn), K3 l → A1z d l = .ok (p, r) → l = A7n p ++ r
 | 0, l, r, p, _, h => by cases h
 | d + 1, l, r, p, hl, h => by
  obtain ⟨name, l1, h1, g1⟩ := Rd.bind_inv h; clear h
  obtain rfl := A2C hl h1
  replace hl := hl.right
  obtain ⟨line, l2, h2, g2⟩ := Rd.bind_inv g1; clear g1
  obtain ⟨rfl, _⟩ := C9 hl h2
  replace hl := hl.right
  obtain ⟨params, l3, h3, g3⟩ := Rd.bind_inv g2; clear g2
  obtain ⟨rfl, _⟩ := C9 hl h3
  replace hl := hl.right
  obtain ⟨vararg, l4, h4, g4⟩ := Rd.bind_inv g3; clear g3
  obtain rfl := A2l hl h4
  replace hl := hl.right
  obtain ⟨regs, l5, h5, g5⟩ := Rd.bind_inv g4; clear g4
  obtain ⟨rfl, _⟩ := C9 hl h5
  replace hl := hl.right
  obtain ⟨code, l6, h6, g6⟩ := Rd.bind_inv g5; clear g5
  obtain rfl := A2f (fun l x r a b => C0P a b) hl h6
  replace hl := hl.right
  obtain ⟨lines, l7, h7, g7⟩ := Rd.bind_inv g6; clear g6
  obtain rfl := A2f (fun l x r a b => (C9 a b).1) hl h7
  replace hl := hl.right
  obtain ⟨consts, l8, h8, g8⟩ := Rd.bind_inv g7; clear g7
  obtain rfl := A2f (fun l x r a b => B5A a b) hl h8
  replace hl := hl.right
  obtain ⟨protos, l9, h9, g9⟩ := Rd.bind_inv g8; clear g8
  obtain rfl := A2f (fun l x r a b => A6p d l r x a b) hl h9
  replace hl := hl.right
  obtain ⟨ups, l10, h10, g10⟩ := Rd.bind_inv g9; clear g9
  obtain rfl := A2f (fun l x r a b => C3l a b) hl h10
  replace hl := hl.right
  obtain ⟨vars, l11, h11, g11⟩ := Rd.bind_inv g10; clear g10
  obtain rfl := A2f (fun l x r a b => C3b a b) hl h11
  injection g11 with g11
  injection g11 with e1 e2
  subst e1; subst e2
  rw [A8P, A7h]
  simp only [List.append_assoc, A3Y]
end Go.Proofs.YtpmkgcjhbpiojaaGreatDoor
