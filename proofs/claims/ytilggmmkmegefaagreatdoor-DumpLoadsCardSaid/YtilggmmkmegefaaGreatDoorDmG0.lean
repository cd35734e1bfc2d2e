/-
 What the bytes of a dump say: reading them, plain, and that writing is its inverse. No condition.
-/
import Derived.Test.YtilggmmkmegefaaGreatDoorDmC
set_option linter.unusedVariables false
set_option linter.unusedSimpArgs false
set_option maxRecDepth 100000
set_option maxHeartbeats 800000
namespace Go.Proofs.YtilggmmkmegefaaGreatDoor
open Go Go.Abs
abbrev Rd (α : Type) := Except Int (α × List Int)
def Rd.bind {α β : Type} (x : Rd α) (f : α → List Int → Rd β) : Rd β :=
 match x with
 | .ok r => f r.1 r.2
 | .error e => .error e
theorem Rd.bind_ok {α β : Type} (a : α) (l : List Int) (f : α → List Int → Rd β) : Rd.bind (.ok (a, l)) f = f a l := rfl
theorem Rd.bind_inv {α β : Type} {x : Rd α} {f : α → List Int → Rd β} {r : β × List Int} (h : x.bind f = .ok r) : ∃ a l, x = .ok (a, l) ∧ f a l = .ok r := by
 cases x with
 | ok y => exact ⟨y.1, y.2, rfl, h⟩
 | error e => cases h
def A6C (n : Nat) (l : List Int) : Rd (List Int) := if n ≤ l.length then .ok (l.take n, l.drop n) else .error 5
def orN (b : List Int) : Nat → Int
 | 0 => 0
 | k + 1 => R1 .or .u64 (orN b k) (shZ true .u64 (IntKind.u64.wrap (b.getD k 0)) (8 * k))
def unL (b : List Int) : Int := IntKind.i64.wrap (orN b 8)
def Y2 (l : List Int) : Rd Int := (A6C 8 l).bind fun b l => .ok (unL b, l)
def A3E (l : List Int) : Rd Bool := (A6C 1 l).bind fun b l => if 1 < b.getD 0 0 then .error 4 else .ok (decide (b.getD 0 0 = 1), l)
def B7s (l : List Int) : Rd Nat := (Y2 l).bind fun z l => if z < 0 then .error 4 else if (l.length : Int) < z then .error 5 else .ok (z.toNat, l)
def B2o (b : List Int) : List UInt8 := b.map fun z => UInt8.ofNat z.toNat
def B2k (l : List Int) : Rd (List UInt8) := (B7s l).bind fun n l => (A6C n l).bind fun b l => .ok (B2o b, l)
def B2r (l : List Int) : Rd Kst := (A6C 1 l).bind fun b l =>
 if b.getD 0 0 = 0 then .ok (⟨0, 0, 0, [], 0⟩, l)
 else if b.getD 0 0 = 1 then (A3E l).bind fun t l => .ok (⟨1, 0, 0, [], if t then 1 else 0⟩, l)
 else if b.getD 0 0 = 2 then (Y2 l).bind fun p l => (Y2 l).bind fun q l => .ok (⟨2, p, q, [], 0⟩, l)
 else if b.getD 0 0 = 3 then (B2k l).bind fun s l => .ok (⟨3, 0, 0, s, 0⟩, l)
 else .error 4
def P6 {α : Type} (f : List Int → Rd α) : Nat → List Int → Rd (List α)
 | 0, l => .ok ([], l)
 | n + 1, l => (f l).bind fun x l => (P6 f n l).bind fun r l => .ok (x :: r, l)
def B6r (l : List Int) : Rd Ins := (Y2 l).bind fun o l => (Y2 l).bind fun a l => (Y2 l).bind fun b l => (Y2 l).bind fun c l => (Y2 l).bind fun d l => .ok (⟨o, a, b, c, d⟩, l)
def upP (l : List Int) : Rd Upv := (B2k l).bind fun s l => (A3E l).bind fun t l => (Y2 l).bind fun i l => .ok (⟨s, t, i⟩, l)
def vrP (l : List Int) : Rd Vr := (B2k l).bind fun s l => (Y2 l).bind fun a l => (Y2 l).bind fun b l => (Y2 l).bind fun c l => (Y2 l).bind fun d l => .ok (⟨s, a, b, c, d⟩, l)
def L5 {α : Type} (f : List Int → Rd α) (l : List Int) : Rd (List α) := (B7s l).bind fun n l => P6 f n l
def A3Y : Nat → List Int → Rd Fn
 | 0, _ => .error 3
 | d + 1, l => (B2k l).bind fun name l => (Y2 l).bind fun line l => (Y2 l).bind fun params l => (A3E l).bind fun vararg l => (Y2 l).bind fun regs l =>
  (L5 B6r l).bind fun code l => (L5 Y2 l).bind fun lines l => (L5 B2r l).bind fun consts l => (L5 (A3Y d) l).bind fun protos l => (L5 upP l).bind fun ups l => (L5 vrP l).bind fun vars l =>
  .ok (⟨name, line, params, vararg, regs, code, lines, consts, protos, ups, vars⟩, l)
theorem C1n {k m x : Nat} (hx : x < 2 ^ k) (hk : k + 8 ≤ 64) (hm : m < 256) : R1 .or .u64 (x : Int) ((2 ^ k * m : Nat) : Int) = ((x + 2 ^ k * m : Nat) : Int) := by
 have h1 : 2 ^ k * m + x < 2 ^ (k + 8) := by
  rw [Nat.pow_add]
  have : 2 ^ k * m + 2 ^ k ≤ 2 ^ k * 2 ^ 8 := by rw [← Nat.mul_succ]; exact Nat.mul_le_mul_left _ (by omega)
  omega
 have h2 : (2 : Nat) ^ (k + 8) ≤ 2 ^ 64 := Nat.pow_le_pow_right (by decide) hk
 have h3 := Nat.two_pow_add_eq_or_of_lt hx m
 generalize hy : 2 ^ k * m = y at *
 unfold R1
 show IntKind.u64.wrap ((BitVec.ofInt 64 (x : Int) ||| BitVec.ofInt 64 (y : Int)).toNat : Int) = _
 rw [BitVec.toNat_or, BitVec.toNat_ofInt, BitVec.toNat_ofInt]
 have e1 : ((x : Int) % ((2 ^ 64 : Nat) : Int)).toNat = x := by omega
 have e2 : ((y : Int) % ((2 ^ 64 : Nat) : Int)).toNat = y := by omega
 rw [e1, e2, Nat.or_comm, ← h3]
 show ((y + x : Nat) : Int) % (2 ^ 64 : Int) = _
 omega
def A1M : List Int → Int
 | [] => 0
 | b :: r => b + 256 * A1M r
def dg : Nat → Int → List Int
 | 0, _ => []
 | k + 1, y => y % 256 :: dg k (y / 256)
theorem B8h : ∀ (k : Nat) (y : Int), dg (k + 1) y = dg k y ++ [y / 256 ^ k % 256]
 | 0, y => by simp [dg]
 | k + 1, y => by
  show y % 256 :: dg (k + 1) (y / 256) = (y % 256 :: dg k (y / 256)) ++ [_]
  rw [B8h k (y / 256), Int.ediv_ediv_of_nonneg (by decide), show (256 : Int) * 256 ^ k = 256 ^ (k + 1) by rw [Int.pow_succ, Int.mul_comm]]
  rfl
theorem C2B : ∀ b : List Int, M6 b → dg b.length (A1M b) = b
 | [], _ => rfl
 | b :: r, h => by
  have h1 := h b List.mem_cons_self
  have h2 := C2B r fun z hz => h z (List.mem_cons_of_mem _ hz)
  unfold isB at h1
  show (b + 256 * A1M r) % 256 :: dg r.length ((b + 256 * A1M r) / 256) = _
  rw [show (b + 256 * A1M r) % 256 = b by omega, show (b + 256 * A1M r) / 256 = A1M r by omega, h2]
theorem B2d : ∀ b : List Int, M6 b → 0 ≤ A1M b ∧ A1M b < 256 ^ b.length
 | [], _ => by decide
 | b :: r, h => by
  have h1 := h b List.mem_cons_self
  have h2 := B2d r fun z hz => h z (List.mem_cons_of_mem _ hz)
  unfold isB at h1
  rw [A1M, List.length_cons, Int.pow_succ]
  generalize (256 : Int) ^ r.length = P at *
  omega
theorem C1T {b : List Nat} (hb : ∀ x ∈ b, x < 256) : ∀ k, k ≤ 8 → k ≤ b.length → orN (b.map fun (x : Nat) => (x : Int)) k = A1M ((b.take k).map fun (x : Nat) => (x : Int)) ∧ ∃ y : Nat, y < 2 ^ (8 * k) ∧ A1M ((b.take k).map fun (x : Nat) => (x : Int)) = y
 | 0, _, _ => ⟨rfl, 0, by decide, rfl⟩
 | k + 1, hk, hl => by
  obtain ⟨h1, y, hy, h2⟩ := C1T hb k (by omega) (by omega)
  obtain ⟨m, hm⟩ : ∃ m, b[k]? = some m := ⟨b[k], by simp⟩
  have hm2 := hb m (List.mem_of_getElem? hm)
  have e : (b.take (k + 1)).map (fun (x : Nat) => (x : Int)) = (b.take k).map (fun (x : Nat) => (x : Int)) ++ [(m : Int)] := by rw [List.take_add_one, hm]; simp
  have hv : ∀ (l : List Int) (z : Int), A1M (l ++ [z]) = A1M l + 256 ^ l.length * z := by
   intro l z
   induction l with
   | nil => show z + 256 * 0 = 0 + 1 * z; omega
   | cons a r ih =>
    show a + 256 * A1M (r ++ [z]) = a + 256 * A1M r + 256 ^ (r.length + 1) * z
    rw [ih, Int.pow_succ, Int.mul_add, Int.mul_comm (256 ^ r.length) 256, Int.mul_assoc, Int.add_assoc]
  have hw : IntKind.u64.wrap (m : Int) = (m : Int) := by show (m : Int) % (2 ^ 64 : Int) = m; omega
  have hs : shZ true .u64 (m : Int) ((8 : Int) * (k : Int)) = ((2 ^ (8 * k) * m : Nat) : Int) := by
   obtain rfl | rfl | rfl | rfl | rfl | rfl | rfl | rfl : k = 0 ∨ k = 1 ∨ k = 2 ∨ k = 3 ∨ k = 4 ∨ k = 5 ∨ k = 6 ∨ k = 7 := by omega
   ·show (((m : Int) * 2 ^ 0) % (2 ^ 64 : Int)) = ((2 ^ 0 * m : Nat) : Int); omega
   ·show (((m : Int) * 2 ^ 8) % (2 ^ 64 : Int)) = ((2 ^ 8 * m : Nat) : Int); omega
   ·show (((m : Int) * 2 ^ 16) % (2 ^ 64 : Int)) = ((2 ^ 16 * m : Nat) : Int); omega
   ·show (((m : Int) * 2 ^ 24) % (2 ^ 64 : Int)) = ((2 ^ 24 * m : Nat) : Int); omega
   ·show (((m : Int) * 2 ^ 32) % (2 ^ 64 : Int)) = ((2 ^ 32 * m : Nat) : Int); omega
   ·show (((m : Int) * 2 ^ 40) % (2 ^ 64 : Int)) = ((2 ^ 40 * m : Nat) : Int); omega
   ·show (((m : Int) * 2 ^ 48) % (2 ^ 64 : Int)) = ((2 ^ 48 * m : Nat) : Int); omega
   ·show (((m : Int) * 2 ^ 56) % (2 ^ 64 : Int)) = ((2 ^ 56 * m : Nat) : Int); omega
  have hg : (b.map fun (x : Nat) => (x : Int)).getD k 0 = (m : Int) := by rw [List.getD_eq_getElem?_getD, List.getElem?_map, hm]; rfl
  have hp : (256 : Int) ^ k = ((2 ^ (8 * k) : Nat) : Int) := by rw [Nat.pow_mul]; simp
  have e2 : A1M ((b.take (k + 1)).map fun (x : Nat) => (x : Int)) = ((y + 2 ^ (8 * k) * m : Nat) : Int) := by
   rw [e, hv, h2, List.length_map, List.length_take, Nat.min_eq_left (by omega), hp]
   simp
  refine ⟨?_, y + 2 ^ (8 * k) * m, ?_, e2⟩
  ·rw [orN, h1, h2, hg, hw, hs, C1n hy (by omega) hm2, e2]
  ·rw [show 8 * (k + 1) = 8 * k + 8 from rfl, Nat.pow_add]
   have : 2 ^ (8 * k) * m + 2 ^ (8 * k) ≤ 2 ^ (8 * k) * 2 ^ 8 := by rw [← Nat.mul_succ]; exact Nat.mul_le_mul_left _ (by omega)
   omega
theorem C3z {b : List Int} (hb : M6 b) (hl : b.length = 8) : orN b 8 = A1M b := by
 have e : b = (b.map Int.toNat).map fun (x : Nat) => (x : Int) := by
  rw [List.map_map]
  conv => lhs; rw [← List.map_id b]
  refine List.map_congr_left fun z hz => ?_
  have := hb z hz
  unfold isB at this
  simp only [Function.comp, id]
  omega
 have h := (C1T (b := b.map Int.toNat) (fun x hx => by
  obtain ⟨z, hz, rfl⟩ := List.mem_map.1 hx
  have := hb z hz
  unfold isB at this
  omega) 8 (Nat.le_refl _) (by simp [hl])).1
 rw [List.take_of_length_le (by simp [hl]), ← e] at h
 exact h
theorem C4X (z : Int) : ∀ k, uN z k = IntKind.u64.wrap z / 256 ^ k
 | 0 => by rw [uN]; simp
 | k + 1 => by
  rw [uN, C4X z k]
  show (IntKind.u64.wrap z / 256 ^ k).fdiv ((2 : Int) ^ 8) = _
  rw [Int.fdiv_eq_ediv_of_nonneg _ (by decide), Int.ediv_ediv_of_nonneg (Int.pow_nonneg (by decide)), Int.pow_succ]
  rfl
theorem B8s (z : Int) : ∀ k, B9t z k = dg k (IntKind.u64.wrap z)
 | 0 => rfl
 | k + 1 => by
  rw [B9t, B8s z k, C4X, B8h]
  rfl
theorem C6d (a : Int) : IntKind.u64.wrap a = a % 18446744073709551616 := rfl
theorem B3B (a : Int) : IntKind.i64.wrap a = if 9223372036854775807 < a % 18446744073709551616 then a % 18446744073709551616 - 18446744073709551616 else a % 18446744073709551616 := by
 have e : IntKind.i64.wrap a = (if (true && decide (a % (2 ^ 64 : Int) ≥ (2 ^ 63 : Int))) = true then a % (2 ^ 64 : Int) - (2 ^ 64 : Int) else a % (2 ^ 64 : Int)) := rfl
 rw [e]
 simp only [Bool.true_and, decide_eq_true_eq]
 split <;> split <;> omega
theorem C3g {b : List Int} (hb : M6 b) (hl : b.length = 8) : U0 (unL b) = b := by
 have h := B2d b hb
 rw [hl] at h
 have h2 : A1M b < 18446744073709551616 := h.2
 have e : IntKind.u64.wrap (IntKind.i64.wrap (A1M b)) = A1M b := by rw [C6d, B3B]; omega
 unfold unL U0
 rw [C3z hb hl, B8s, e, ← hl]
 exact C2B b hb
def C3w (z : Int) : Prop := -9223372036854775808 ≤ z ∧ z < 9223372036854775808
theorem V3 {n : Nat} {l b r : List Int} (h : A6C n l = .ok (b, r)) : l = b ++ r ∧ b.length = n := by
 unfold A6C at h
 split at h
 ·rename_i hn
  injection h with h
  injection h with h1 h2
  subst h1; subst h2
  exact ⟨(List.take_append_drop n l).symm, List.length_take_of_le hn⟩
 ·cases h
theorem M6.left {a b : List Int} (h : M6 (a ++ b)) : M6 a := fun z hz => h z (List.mem_append_left _ hz)
theorem M6.right {a b : List Int} (h : M6 (a ++ b)) : M6 b := fun z hz => h z (List.mem_append_right _ hz)
theorem C7l (b : List Int) : C3w (unL b) := by
 unfold unL C3w
 rw [B3B]
 omega
theorem C9 {l r : List Int} {z : Int} (hl : M6 l) (h : Y2 l = .ok (z, r)) : l = U0 z ++ r ∧ C3w z := by
 obtain ⟨b, l1, h1, h2⟩ := Rd.bind_inv h
 obtain ⟨rfl, hb⟩ := V3 h1
 injection h2 with h2
 injection h2 with e1 e2
 subst e1; subst e2
 exact ⟨by rw [C3g hl.left hb], C7l b⟩
theorem A0W {l r : List Int} {t : Bool} (hl : M6 l) (h : A3E l = .ok (t, r)) : l = [if t then 1 else 0] ++ r := by
 obtain ⟨b, l1, h1, h2⟩ := Rd.bind_inv h
 obtain ⟨rfl, hb⟩ := V3 h1
 match b, hb with
 | [c], _ =>
  have hc := hl c (by simp)
  unfold isB at hc
  simp only [List.getD_cons_zero] at h2
  split at h2
  ·cases h2
  ·injection h2 with h2
   injection h2 with e1 e2
   subst e1; subst e2
   by_cases h1 : c = 1
   ·simp [h1]
   ·have : c = 0 := by omega
    simp [this]
theorem o7 {l r : List Int} {n : Nat} (hl : M6 l) (h : B7s l = .ok (n, r)) : l = U0 n ++ r ∧ n ≤ r.length ∧ C3w n := by
 obtain ⟨z, l1, h1, h2⟩ := Rd.bind_inv h
 obtain ⟨rfl, hz⟩ := C9 hl h1
 split at h2
 ·cases h2
 split at h2
 ·cases h2
 ·injection h2 with h2
  injection h2 with e1 e2
  subst e1; subst e2
  rename_i c1 c2
  have e : ((z.toNat : Nat) : Int) = z := by omega
  rw [e]
  exact ⟨rfl, by omega, hz⟩
theorem B5o {b : List Int} (hb : M6 b) : (B2o b).map (fun u => (u.toNat : Int)) = b := by
 unfold B2o
 rw [List.map_map]
 conv => rhs; rw [← List.map_id b]
 refine List.map_congr_left fun z hz => ?_
 have := hb z hz
 unfold isB at this
 simp only [Function.comp, id, UInt8.toNat_ofNat']
 omega
theorem A0B {l r : List Int} {s : List UInt8} (hl : M6 l) (h : B2k l = .ok (s, r)) : l = B4k s ++ r := by
 obtain ⟨n, l1, h1, h2⟩ := Rd.bind_inv h
 obtain ⟨rfl, hn, _⟩ := o7 hl h1
 obtain ⟨b, l2, h3, h4⟩ := Rd.bind_inv h2
 obtain ⟨rfl, hb⟩ := V3 h3
 injection h4 with h4
 injection h4 with e1 e2
 subst e1; subst e2
 have hB := hl.right.left
 unfold B4k
 rw [B5o hB, show (B2o b).length = n from by unfold B2o; rw [List.length_map]; exact hb, List.append_assoc]
theorem B5p {l r : List Int} {v : Kst} (hl : M6 l) (h : B2r l = .ok (v, r)) : l = B7g v ++ r := by
 obtain ⟨b, l1, h1, h2⟩ := Rd.bind_inv h
 obtain ⟨rfl, hb⟩ := V3 h1
 match b, hb with
 | [c], _ =>
  have hr := hl.right
  simp only [List.getD_cons_zero] at h2
  split at h2
  ·rename_i c0
   injection h2 with h2
   injection h2 with e1 e2
   subst e1; subst e2
   rw [c0]; rfl
  split at h2
  ·rename_i c0 c1
   obtain ⟨t, l2, h3, h4⟩ := Rd.bind_inv h2
   obtain rfl := A0W hr h3
   injection h4 with h4
   injection h4 with e1 e2
   subst e1; subst e2
   rw [c1]
   cases t <;> rfl
  split at h2
  ·rename_i c0 c1 c2
   obtain ⟨p, l2, h3, h4⟩ := Rd.bind_inv h2
   obtain ⟨rfl, _⟩ := C9 hr h3
   obtain ⟨q, l3, h5, h6⟩ := Rd.bind_inv h4
   obtain ⟨rfl, _⟩ := C9 hr.right h5
   injection h6 with h6
   injection h6 with e1 e2
   subst e1; subst e2
   rw [c2]
   unfold B7g
   simp only [List.append_assoc]
   rfl
  split at h2
  ·rename_i c0 c1 c2 c3
   obtain ⟨s, l2, h3, h4⟩ := Rd.bind_inv h2
   obtain rfl := A0B hr h3
   injection h4 with h4
   injection h4 with e1 e2
   subst e1; subst e2
   rw [c3]
   unfold B7g
   simp only [List.append_assoc]
   rfl
  ·cases h2
theorem B3f {α : Type} {f : List Int → Rd α} {w : α → List Int} (hf : ∀ l x r, M6 l → f l = .ok (x, r) → l = w x ++ r) : ∀ (n : Nat) (l r : List Int) (xs : List α), M6 l → P6 f n l = .ok (xs, r) → l = xs.flatMap w ++ r ∧ xs.length = n
 | 0, l, r, xs, _, h => by
  injection h with h
  injection h with e1 e2
  subst e1; subst e2
  exact ⟨rfl, rfl⟩
 | n + 1, l, r, xs, hl, h => by
  obtain ⟨x, l1, h1, h2⟩ := Rd.bind_inv h
  obtain rfl := hf _ _ _ hl h1
  obtain ⟨ys, l2, h3, h4⟩ := Rd.bind_inv h2
  obtain ⟨rfl, hn⟩ := B3f hf n _ _ _ hl.right h3
  injection h4 with h4
  injection h4 with e1 e2
  subst e1; subst e2
  exact ⟨by rw [List.flatMap_cons, List.append_assoc], by simp [hn]⟩
theorem A0k {α : Type} {f : List Int → Rd α} {w : α → List Int} (hf : ∀ l x r, M6 l → f l = .ok (x, r) → l = w x ++ r) {l r : List Int} {xs : List α} (hl : M6 l) (h : L5 f l = .ok (xs, r)) : l = U0 xs.length ++ xs.flatMap w ++ r := by
 obtain ⟨n, l1, h1, h2⟩ := Rd.bind_inv h
 obtain ⟨rfl, _, _⟩ := o7 hl h1
 obtain ⟨rfl, rfl⟩ := B3f hf _ _ _ _ hl.right h2
 rw [List.append_assoc]
theorem C1H {l r : List Int} {i : Ins} (hl : M6 l) (h : B6r l = .ok (i, r)) : l = A3d (B6w i) ++ r := by
 obtain ⟨z1, l1, h1, g1⟩ := Rd.bind_inv h; clear h
 obtain ⟨rfl, _⟩ := C9 hl h1
 obtain ⟨z2, l2, h2, g2⟩ := Rd.bind_inv g1; clear g1
 obtain ⟨rfl, _⟩ := C9 hl.right h2
 obtain ⟨z3, l3, h3, g3⟩ := Rd.bind_inv g2; clear g2
 obtain ⟨rfl, _⟩ := C9 hl.right.right h3
 obtain ⟨z4, l4, h4, g4⟩ := Rd.bind_inv g3; clear g3
 obtain ⟨rfl, _⟩ := C9 hl.right.right.right h4
 obtain ⟨z5, l5, h5, g5⟩ := Rd.bind_inv g4; clear g4
 obtain ⟨rfl, _⟩ := C9 hl.right.right.right.right h5
 injection g5 with g5
 injection g5 with e1 e2
 subst e1; subst e2
 simp [A3d, B6w]
theorem C2V {l r : List Int} {u : Upv} (hl : M6 l) (h : upP l = .ok (u, r)) : l = upL u ++ r := by
 obtain ⟨z1, l1, h1, g1⟩ := Rd.bind_inv h; clear h
 obtain rfl := A0B hl h1
 obtain ⟨z2, l2, h2, g2⟩ := Rd.bind_inv g1; clear g1
 obtain rfl := A0W hl.right h2
 obtain ⟨z3, l3, h3, g3⟩ := Rd.bind_inv g2; clear g2
 obtain ⟨rfl, _⟩ := C9 hl.right.right h3
 injection g3 with g3
 injection g3 with e1 e2
 subst e1; subst e2
 simp [upL]
theorem C3o {l r : List Int} {u : Vr} (hl : M6 l) (h : vrP l = .ok (u, r)) : l = vrL u ++ r := by
 obtain ⟨z1, l1, h1, g1⟩ := Rd.bind_inv h; clear h
 obtain rfl := A0B hl h1
 obtain ⟨z2, l2, h2, g2⟩ := Rd.bind_inv g1; clear g1
 obtain ⟨rfl, _⟩ := C9 hl.right h2
 obtain ⟨z3, l3, h3, g3⟩ := Rd.bind_inv g2; clear g2
 obtain ⟨rfl, _⟩ := C9 hl.right.right h3
 obtain ⟨z4, l4, h4, g4⟩ := Rd.bind_inv g3; clear g3
 obtain ⟨rfl, _⟩ := C9 hl.right.right.right h4
 obtain ⟨z5, l5, h5, g5⟩ := Rd.bind_inv g4; clear g4
 obtain ⟨rfl, _⟩ := C9 hl.right.right.right.right h5
 injection g5 with g5
 injection g5 with e1 e2
 subst e1; subst e2
 simp [vrL, A3d, C9K]
theorem A8J : ∀ (d : Nat) (l r : List Int) (p : Fn), M6 l → A3Y d l = .ok (p, r) → l = A6z p ++ r
 | 0, l, r, p, _, h => by cases h
 | d + 1, l, r, p, hl, h => by
  obtain ⟨name, l1, h1, g1⟩ := Rd.bind_inv h; clear h
  obtain rfl := A0B hl h1
  replace hl := hl.right
  obtain ⟨line, l2, h2, g2⟩ := Rd.bind_inv g1; clear g1
  obtain ⟨rfl, _⟩ := C9 hl h2
  replace hl := hl.right
  obtain ⟨params, l3, h3, g3⟩ := Rd.bind_inv g2; clear g2
  obtain ⟨rfl, _⟩ := C9 hl h3
  replace hl := hl.right
  obtain ⟨vararg, l4, h4, g4⟩ := Rd.bind_inv g3; clear g3
  obtain rfl := A0W hl h4
  replace hl := hl.right
  obtain ⟨regs, l5, h5, g5⟩ := Rd.bind_inv g4; clear g4
  obtain ⟨rfl, _⟩ := C9 hl h5
  replace hl := hl.right
  obtain ⟨code, l6, h6, g6⟩ := Rd.bind_inv g5; clear g5
  obtain rfl := A0k (fun l x r a b => C1H a b) hl h6
  replace hl := hl.right
  obtain ⟨lines, l7, h7, g7⟩ := Rd.bind_inv g6; clear g6
  obtain rfl := A0k (fun l x r a b => (C9 a b).1) hl h7
  replace hl := hl.right
  obtain ⟨consts, l8, h8, g8⟩ := Rd.bind_inv g7; clear g7
  obtain rfl := A0k (fun l x r a b => B5p a b) hl h8
  replace hl := hl.right
  obtain ⟨protos, l9, h9, g9⟩ := Rd.bind_inv g8; clear g8
  obtain rfl := A0k (fun l x r a b => A8J d l r x a b) hl h9
  replace hl := hl.right
  obtain ⟨ups, l10, h10, g10⟩ := Rd.bind_inv g9; clear g9
  obtain rfl := A0k (fun l x r a b => C2V a b) hl h10
  replace hl := hl.right
  obtain ⟨vars, l11, h11, g11⟩ := Rd.bind_inv g10; clear g10
  obtain rfl := A0k (fun l x r a b => C3o a b) hl h11
  injection g11 with g11
  injection g11 with e1 e2
  subst e1; subst e2
  rw [A8B, A6f]
  simp only [List.append_assoc, A3d]
end Go.Proofs.YtilggmmkmegefaaGreatDoor
