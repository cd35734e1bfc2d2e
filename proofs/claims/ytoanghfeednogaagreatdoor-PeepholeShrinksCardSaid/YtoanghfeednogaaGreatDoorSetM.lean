/-
 Sorted lists; sets of numbers as lists. No condition.
-/
import Derived.Test.YtoanghfeednogaaGreatDoorSrt
import Derived.Test.YtoanghfeednogaaGreatDoorShelf
import Derived.Test.YtoanghfeednogaaGreatDoorWk
set_option linter.unusedVariables false
set_option linter.unusedSimpArgs false
set_option maxRecDepth 100000
set_option maxHeartbeats 0
namespace Go.Proofs.YtoanghfeednogaaGreatDoor
open Go.Abs
attribute [local irreducible] A2 Run
def R6 (zs : List Int) : List Int := zs.mergeSort fun x y => decide (x ≤ y)
theorem C9h (zs : List Int) (hm : 0 < zs.length) (hB : zs.length ≤ 100000) (b st n : Nat) :
  A2 Tryz.prog 54 [.sl b st 0 zs.length] [(b, st, .rows 1 (zs.map zrw))] n (fun r h' _ => r = .tup [] ∧ h' = [(b, st, .rows 1 ((R6 zs).map zrw))]) :=
 A2.inplace zs (R6 zs) hm (by simp [R6]) (fun _ _ _ => .tuple #[]) (.tup []) b st n (fun E cap _ _ _ _ => .tup [] #[] rfl (fun i c v h => by simp at h))
  (fun blk off cap w hH hb hcap => (Tryz.slices_Sort_int blk off cap zs w hH hb (by omega)).mono fun e w' h => h)
theorem A3z : Abs.Pure Tryz.prog 54 [.isl []] (.tup []) := by
 intro w O cargs _ _ hR
 obtain ⟨hl, hR⟩ := hR
 obtain ⟨cs⟩ := cargs
 match cs, hl with
 | [v], _ =>
  obtain ⟨p, cap, hv⟩ : ∃ p cap, v = .slice p 0 cap := by
   have h := hR 0 _ v rfl rfl
   cases h with
   | isl _ p cap sz f hp hcap hrow hcell hR => exact ⟨_, _, rfl⟩
   | isl0 a cap => exact ⟨_, _, rfl⟩
  subst hv
  refine (Tryz.slices_Sort_int_none p cap w).mono ?_
  rintro e w' ⟨rfl, rfl⟩
  exact ⟨_, rfl, .tup [] #[] rfl (fun i c v h => by simp at h), Wd.refl _, fun _ _ => rfl⟩
theorem C0D (zs : List Int) (hm : 0 < zs.length) (hB : zs.length ≤ 100000) (b st n : Nat) :
  A2 Tryz.prog 55 [.sl b st 0 zs.length] [(b, st, .rows 1 (zs.map zrw))] n
   (fun r h' _ => r = .sl b st 0 (Lib.compact zs).length ∧ h' = [(b, st, .rows 1 ((Lib.compact zs ++ List.replicate (zs.length - (Lib.compact zs).length) 0).map zrw))]) := by
 have hle : (Lib.compact zs).length ≤ zs.length := Lib.compact_length_le zs
 refine A2.inplace zs (Lib.compact zs ++ List.replicate (zs.length - (Lib.compact zs).length) 0) hm (by simp; omega) (fun blk off cap => .slice (some ⟨blk, off, none⟩) (Lib.compact zs).length cap) _ b st n ?_ ?_
 ·intro E cap h1 h2 h3 h4
  have := R.sl (E := E) b st 0 (Lib.compact zs).length cap h1 (by omega) (by omega)
  simpa using this
 ·intro blk off cap w hH hb hcap
  refine (Tryz.slices_Compact_int blk off cap zs w hH (by omega) hcap).mono ?_
  rintro e w' ⟨rfl, q, rfl⟩
  exact ⟨rfl, q, #[], by simp⟩
theorem W8 : Abs.Pure Tryz.prog 55 [.isl []] (.isl []) := by
 intro w O cargs _ _ hR
 obtain ⟨hl, hR⟩ := hR
 obtain ⟨cs⟩ := cargs
 match cs, hl with
 | [v], _ =>
  obtain ⟨p, cap, hv⟩ : ∃ p cap, v = .slice p 0 cap := by
   have h := hR 0 _ v rfl rfl
   cases h with
   | isl _ p cap sz f hp hcap hrow hcell hR => exact ⟨_, _, rfl⟩
   | isl0 a cap => exact ⟨_, _, rfl⟩
  subst hv
  refine (Tryz.slices_Compact_int_empty p cap w).mono ?_
  rintro e w' ⟨rfl, rfl⟩
  exact ⟨_, rfl, .isl0 _ _, Wd.refl _, fun _ _ => rfl⟩
theorem A8y (zs : List Int) {m : Nat} (hl : zs.length = m) (hm : 0 < m) (hB : m ≤ 100000) (b st n : Nat) :
  A2 Tryz.prog 54 [.sl b st 0 m] [(b, st, .rows 1 (zs.map zrw))] n (fun r h' _ => r = .tup [] ∧ h' = [(b, st, .rows 1 ((R6 zs).map zrw))]) := by
 subst hl; exact C9h zs hm hB b st n
theorem p4 (zs : List Int) {m : Nat} (hl : zs.length = m) (hm : 0 < m) (hB : m ≤ 100000) (b st n : Nat) :
  A2 Tryz.prog 55 [.sl b st 0 m] [(b, st, .rows 1 (zs.map zrw))] n
   (fun r h' _ => r = .sl b st 0 (Lib.compact zs).length ∧ h' = [(b, st, .rows 1 ((Lib.compact zs ++ List.replicate (m - (Lib.compact zs).length) 0).map zrw))]) := by
 subst hl; exact C0D zs hm hB b st n
theorem A2K (d : Nat) (h : A0) (l : List Int) : (l.map zrw).map (fun r => r.map (frz d h)) = l.map zrw := by
 rw [List.map_map]
 exact List.map_congr_left fun y _ => by simp [zrw, C5n]
def Z6 (l : List Int) : List Int := Lib.compact (R6 l)
theorem O6 (zs : List Int) (m : Nat) : (((Lib.compact zs ++ List.replicate m 0).map zrw).take (Lib.compact zs).length) = (Lib.compact zs).map zrw := by
 rw [List.map_append]
 have : (Lib.compact zs).length = ((Lib.compact zs).map zrw).length := by simp
 rw [this, List.take_left]
theorem A0C : Z6 [] = [] := by simp [Z6, R6, Lib.compact, Lib.compactUpTo]
theorem w4 (d : Array Int) : ∀ m j, j < m → d[j]! ∈ Lib.compactUpTo d m
 | 0, j, h => absurd h (Nat.not_lt_zero _)
 | m + 1, j, h => by
  rw [Lib.compactUpTo_succ]
  by_cases hj : j < m
  ·exact List.mem_append.2 (.inl (w4 d m j hj))
  ·obtain rfl : j = m := by omega
   cases hk : Lib.keeps d j with
   | true => simp
   | false =>
    have : ¬ (j = 0 ∨ d[j]! ≠ d[j - 1]!) := of_decide_eq_false hk
    have e : d[j]! = d[j - 1]! := by
     by_cases h2 : d[j]! = d[j - 1]!
     ·exact h2
     ·exact absurd (.inr h2) this
    have h0 : j ≠ 0 := fun h => this (.inl h)
    rw [e]
    exact List.mem_append.2 (.inl (w4 d j (j - 1) (by omega)))
theorem B2T {zs : List Int} {x : Int} (h : x ∈ zs) : x ∈ Lib.compact zs := by
 obtain ⟨j, hj, rfl⟩ := List.getElem_of_mem h
 have := w4 zs.toArray zs.length j hj
 simpa [Lib.compact, hj] using this
theorem C8W (l : List Int) : B6 (l.map zrw) 1 = True := eq_true fun r hr => by obtain ⟨y, _, rfl⟩ := List.mem_map.1 hr; rfl
theorem A8M {l : List Int} {k : Nat} {x : Int} (h : l[k]? = some x) : (l.map zrw)[k]? = some [.int .i64 x] := by rw [List.getElem?_map, h]; rfl
def Asc (l : List Int) : Prop := l.Pairwise (· < ·)
theorem A0R (d : Array Int) {x : Int} : ∀ m, m ≤ d.size → x ∈ Lib.compactUpTo d m → ∃ j, j < m ∧ d[j]! = x ∧ (∀ i, i < m → True)
 | m, hm, h => by
  unfold Lib.compactUpTo at h
  obtain ⟨j, h1, h2⟩ := List.mem_map.1 h
  have := List.mem_range.1 (List.mem_filter.1 h1).1
  exact ⟨j, this, h2, fun _ _ => trivial⟩
theorem B1I {zs : List Int} {x : Int} : x ∈ Lib.compact zs ↔ x ∈ zs := by
 refine ⟨fun h => ?_, B2T⟩
 obtain ⟨j, h1, h2, _⟩ := A0R zs.toArray zs.length (by simp) h
 have : zs.toArray[j]! = zs[j] := by simp [h1]
 rw [this] at h2
 rw [← h2]
 exact List.getElem_mem h1
theorem A2z {l : List Int} {x : Int} : x ∈ Z6 l ↔ x ∈ l := by
 unfold Z6 R6
 rw [B1I]
 exact (List.mergeSort_perm l _).mem_iff
theorem A4s (zs : List Int) (hs : zs.Pairwise (· ≤ ·)) : ∀ m, m ≤ zs.length → Asc (Lib.compactUpTo zs.toArray m)
 | 0, _ => by simp [Lib.compactUpTo, Asc]
 | m + 1, hm => by
  rw [Lib.compactUpTo_succ]
  have ih := A4s zs hs m (by omega)
  cases hk : Lib.keeps zs.toArray m with
  | false => simpa using ih
  | true =>
   simp only [if_true]
   refine List.pairwise_append.2 ⟨ih, by simp, fun a ha b hb => ?_⟩
   rw [List.mem_singleton.1 hb]
   obtain ⟨j, h1, h2, _⟩ := A0R zs.toArray m (by simp; omega) ha
   have hget : ∀ i (h : i < zs.length), zs.toArray[i]! = zs[i] := fun i h => by simp [h]
   rw [← h2, hget j (by omega), hget m (by omega)]
   have hk' := of_decide_eq_true hk
   have hle := List.pairwise_iff_getElem.1 hs
   rcases hk' with h0 | hne
   ·omega
   ·rw [hget m (by omega), hget (m - 1) (by omega)] at hne
    have a1 := hle (m - 1) m (by omega) (by omega) (by omega)
    by_cases e : j = m - 1
    ·subst e; omega
    ·have a2 := hle j (m - 1) (by omega) (by omega) (by omega)
     omega
theorem B3P (l : List Int) : Asc (Z6 l) := by
 refine A4s _ ?_ _ (Nat.le_refl _)
 unfold R6
 have := List.pairwise_mergeSort (le := fun x y : Int => decide (x ≤ y)) (fun a b c h1 h2 => by simp at *; omega) (fun a b => by simp; omega) l
 exact this.imp fun h => by simpa using h
theorem A6L : Asc [] := List.Pairwise.nil
theorem B4X (x : Int) : Asc [x] := List.pairwise_singleton ..
def A5c (a : Int) (n : Nat) : List Int := (List.range n).map fun k => a + (k : Nat)
theorem B3n (a : Int) (n : Nat) : A5c a (n + 1) = A5c a n ++ [a + (n : Nat)] := by simp [A5c, List.range_succ]
theorem B4I (a : Int) (n : Nat) : (A5c a n).length = n := by simp [A5c]
theorem B4t {a x : Int} {n : Nat} : x ∈ A5c a n ↔ a ≤ x ∧ x < a + n := by
 unfold A5c
 simp only [List.mem_map, List.mem_range]
 constructor
 ·rintro ⟨k, h1, rfl⟩; omega
 ·rintro ⟨h1, h2⟩; exact ⟨(x - a).toNat, by omega, by omega⟩
theorem B3Q (a : Int) : ∀ n, Asc (A5c a n)
 | 0 => A6L
 | n + 1 => by
  rw [B3n]
  refine List.pairwise_append.2 ⟨B3Q a n, by simp, fun x hx y hy => ?_⟩
  rw [List.mem_singleton.1 hy]
  have := B4t.1 hx; omega
end Go.Proofs.YtoanghfeednogaaGreatDoor
