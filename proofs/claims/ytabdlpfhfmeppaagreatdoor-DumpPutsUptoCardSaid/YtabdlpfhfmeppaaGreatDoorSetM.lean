/-
  slices.Sort and slices.Compact of integers, by the shelf's contracts. No condition.
-/
import Derived.Test.YtabdlpfhfmeppaaGreatDoorSrt
import Derived.Test.YtabdlpfhfmeppaaGreatDoorShelf
import Derived.Test.YtabdlpfhfmeppaaGreatDoorWk
set_option linter.unusedVariables false
set_option linter.unusedSimpArgs false
set_option maxRecDepth 100000
set_option maxHeartbeats 0
namespace Go.Proofs.YtabdlpfhfmeppaaGreatDoor
open Go.Abs
attribute [local irreducible] CallS Run
def sortZ (zs : List Int) : List Int := zs.mergeSort fun x y => decide (x ≤ y)
theorem sort_c (zs : List Int) (hm : 0 < zs.length) (hB : zs.length ≤ 100000) (b st n : Nat) :
    CallS Tryz.prog 104 [.sl b st 0 zs.length] [(b, st, .rows 1 (zs.map zrw))] n (fun r h' _ => r = .tup [] ∧ h' = [(b, st, .rows 1 ((sortZ zs).map zrw))]) :=
  CallS.inplace zs (sortZ zs) hm (by simp [sortZ]) (fun _ _ _ => .tuple #[]) (.tup []) b st n (fun E cap _ _ _ _ => .tup [] #[] rfl (fun i c v h => by simp at h))
    (fun blk off cap w hH hb hcap => (Tryz.slices_Sort_int blk off cap zs w hH hb (by omega)).mono fun e w' h => h)
theorem compact_c (zs : List Int) (hm : 0 < zs.length) (hB : zs.length ≤ 100000) (b st n : Nat) :
    CallS Tryz.prog 105 [.sl b st 0 zs.length] [(b, st, .rows 1 (zs.map zrw))] n
      (fun r h' _ => r = .sl b st 0 (Lib.compact zs).length ∧ h' = [(b, st, .rows 1 ((Lib.compact zs ++ List.replicate (zs.length - (Lib.compact zs).length) 0).map zrw))]) := by
  have hle : (Lib.compact zs).length ≤ zs.length := Lib.compact_length_le zs
  refine CallS.inplace zs (Lib.compact zs ++ List.replicate (zs.length - (Lib.compact zs).length) 0) hm (by simp; omega) (fun blk off cap => .slice (some ⟨blk, off, none⟩) (Lib.compact zs).length cap) _ b st n ?_ ?_
  · intro E cap h1 h2 h3 h4
    have := R.sl (E := E) b st 0 (Lib.compact zs).length cap h1 (by omega) (by omega)
    simpa using this
  · intro blk off cap w hH hb hcap
    refine (Tryz.slices_Compact_int blk off cap zs w hH (by omega) hcap).mono ?_
    rintro e w' ⟨rfl, q, rfl⟩
    exact ⟨rfl, q, #[], by simp⟩
theorem sort_m (zs : List Int) {m : Nat} (hl : zs.length = m) (hm : 0 < m) (hB : m ≤ 100000) (b st n : Nat) :
    CallS Tryz.prog 104 [.sl b st 0 m] [(b, st, .rows 1 (zs.map zrw))] n (fun r h' _ => r = .tup [] ∧ h' = [(b, st, .rows 1 ((sortZ zs).map zrw))]) := by
  subst hl; exact sort_c zs hm hB b st n
theorem compact_m (zs : List Int) {m : Nat} (hl : zs.length = m) (hm : 0 < m) (hB : m ≤ 100000) (b st n : Nat) :
    CallS Tryz.prog 105 [.sl b st 0 m] [(b, st, .rows 1 (zs.map zrw))] n
      (fun r h' _ => r = .sl b st 0 (Lib.compact zs).length ∧ h' = [(b, st, .rows 1 ((Lib.compact zs ++ List.replicate (m - (Lib.compact zs).length) 0).map zrw))]) := by
  subst hl; exact compact_c zs hm hB b st n
theorem frzZ (d : Nat) (h : Heap) (l : List Int) : (l.map zrw).map (fun r => r.map (frz d h)) = l.map zrw := by
  rw [List.map_map]
  exact List.map_congr_left fun y _ => by simp [zrw, frz_int]
def normZ (l : List Int) : List Int := Lib.compact (sortZ l)
theorem compact_take (zs : List Int) (m : Nat) : (((Lib.compact zs ++ List.replicate m 0).map zrw).take (Lib.compact zs).length) = (Lib.compact zs).map zrw := by
  rw [List.map_append]
  have : (Lib.compact zs).length = ((Lib.compact zs).map zrw).length := by simp
  rw [this, List.take_left]
theorem normZ_nil : normZ [] = [] := by simp [normZ, sortZ, Lib.compact, Lib.compactUpTo]
theorem normZ_one (x : Int) : normZ [x] = [x] := by
  simp [normZ, sortZ, Lib.compact, Lib.compactUpTo, Lib.keeps, List.range_succ]
theorem sortZ_two (x y : Int) : sortZ [x, y] = if x ≤ y then [x, y] else [y, x] := by
  unfold sortZ
  by_cases h : x ≤ y <;> simp [List.mergeSort, List.MergeSort.Internal.splitInTwo, List.merge, h]
theorem compact_two (x y : Int) : Lib.compact [x, y] = if x = y then [x] else [x, y] := by
  by_cases h : x = y
  · subst h; simp [Lib.compact, Lib.compactUpTo, Lib.keeps, List.range_succ, List.filter]
  · have h' : ¬ y = x := fun e => h e.symm
    simp [Lib.compact, Lib.compactUpTo, Lib.keeps, List.range_succ, List.filter, h, h']
theorem normZ_two (x y : Int) : normZ [x, y] = if x = y then [x] else if x < y then [x, y] else [y, x] := by
  unfold normZ
  rw [sortZ_two]
  by_cases h : x ≤ y
  · rw [if_pos h, compact_two]
    by_cases e : x = y
    · simp [e]
    · rw [if_neg e, if_neg e, if_pos (by omega)]
  · rw [if_neg h, compact_two, if_neg (by omega), if_neg (by omega), if_neg (by omega)]
theorem compactUpTo_mem (d : Array Int) : ∀ m j, j < m → d[j]! ∈ Lib.compactUpTo d m
  | 0, j, h => absurd h (Nat.not_lt_zero _)
  | m + 1, j, h => by
    rw [Lib.compactUpTo_succ]
    by_cases hj : j < m
    · exact List.mem_append.2 (.inl (compactUpTo_mem d m j hj))
    · obtain rfl : j = m := by omega
      cases hk : Lib.keeps d j with
      | true => simp
      | false =>
        have : ¬ (j = 0 ∨ d[j]! ≠ d[j - 1]!) := of_decide_eq_false hk
        have e : d[j]! = d[j - 1]! := by
          by_cases h2 : d[j]! = d[j - 1]!
          · exact h2
          · exact absurd (.inr h2) this
        have h0 : j ≠ 0 := fun h => this (.inl h)
        rw [e]
        exact List.mem_append.2 (.inl (compactUpTo_mem d j (j - 1) (by omega)))
theorem mem_compact_of {zs : List Int} {x : Int} (h : x ∈ zs) : x ∈ Lib.compact zs := by
  obtain ⟨j, hj, rfl⟩ := List.getElem_of_mem h
  have := compactUpTo_mem zs.toArray zs.length j hj
  simpa [Lib.compact, hj] using this
theorem rowszZ (l : List Int) : rowsz (l.map zrw) 1 = True := eq_true fun r hr => by obtain ⟨y, _, rfl⟩ := List.mem_map.1 hr; rfl
theorem zrw_at {l : List Int} {k : Nat} {x : Int} (h : l[k]? = some x) : (l.map zrw)[k]? = some [.int .i64 x] := by rw [List.getElem?_map, h]; rfl
def Asc (l : List Int) : Prop := l.Pairwise (· < ·)
theorem asc_ext : ∀ {l m : List Int}, Asc l → Asc m → (∀ x, x ∈ l ↔ x ∈ m) → l = m
  | [], [], _, _, _ => rfl
  | [], y :: m, _, _, h => by have := (h y).2 List.mem_cons_self; cases this
  | x :: l, [], _, _, h => by have := (h x).1 List.mem_cons_self; cases this
  | x :: l, y :: m, hl, hm, h => by
    obtain ⟨hl1, hl2⟩ := List.pairwise_cons.1 hl
    obtain ⟨hm1, hm2⟩ := List.pairwise_cons.1 hm
    have e : x = y := by
      rcases List.mem_cons.1 ((h x).1 List.mem_cons_self) with e | e
      · exact e
      · rcases List.mem_cons.1 ((h y).2 List.mem_cons_self) with e' | e'
        · exact e'.symm
        · have := hm1 x e; have := hl1 y e'; omega
    subst e
    congr 1
    refine asc_ext hl2 hm2 fun z => ⟨fun hz => ?_, fun hz => ?_⟩
    · rcases List.mem_cons.1 ((h z).1 (List.mem_cons_of_mem _ hz)) with e | e
      · have := hl1 z hz; omega
      · exact e
    · rcases List.mem_cons.1 ((h z).2 (List.mem_cons_of_mem _ hz)) with e | e
      · have := hm1 z hz; omega
      · exact e
theorem mem_of_compactUpTo (d : Array Int) {x : Int} : ∀ m, m ≤ d.size → x ∈ Lib.compactUpTo d m → ∃ j, j < m ∧ d[j]! = x ∧ (∀ i, i < m → True)
  | m, hm, h => by
    unfold Lib.compactUpTo at h
    obtain ⟨j, h1, h2⟩ := List.mem_map.1 h
    have := List.mem_range.1 (List.mem_filter.1 h1).1
    exact ⟨j, this, h2, fun _ _ => trivial⟩
theorem mem_compact_iff {zs : List Int} {x : Int} : x ∈ Lib.compact zs ↔ x ∈ zs := by
  refine ⟨fun h => ?_, mem_compact_of⟩
  obtain ⟨j, h1, h2, _⟩ := mem_of_compactUpTo zs.toArray zs.length (by simp) h
  have : zs.toArray[j]! = zs[j] := by simp [h1]
  rw [this] at h2
  rw [← h2]
  exact List.getElem_mem h1
theorem mem_normZ_iff {l : List Int} {x : Int} : x ∈ normZ l ↔ x ∈ l := by
  unfold normZ sortZ
  rw [mem_compact_iff]
  exact (List.mergeSort_perm l _).mem_iff
theorem asc_compactUpTo (zs : List Int) (hs : zs.Pairwise (· ≤ ·)) : ∀ m, m ≤ zs.length → Asc (Lib.compactUpTo zs.toArray m)
  | 0, _ => by simp [Lib.compactUpTo, Asc]
  | m + 1, hm => by
    rw [Lib.compactUpTo_succ]
    have ih := asc_compactUpTo zs hs m (by omega)
    cases hk : Lib.keeps zs.toArray m with
    | false => simpa using ih
    | true =>
      simp only [if_true]
      refine List.pairwise_append.2 ⟨ih, by simp, fun a ha b hb => ?_⟩
      rw [List.mem_singleton.1 hb]
      obtain ⟨j, h1, h2, _⟩ := mem_of_compactUpTo zs.toArray m (by simp; omega) ha
      have hget : ∀ i (h : i < zs.length), zs.toArray[i]! = zs[i] := fun i h => by simp [h]
      rw [← h2, hget j (by omega), hget m (by omega)]
      have hk' := of_decide_eq_true hk
      have hle := List.pairwise_iff_getElem.1 hs
      rcases hk' with h0 | hne
      · omega
      · rw [hget m (by omega), hget (m - 1) (by omega)] at hne
        have a1 := hle (m - 1) m (by omega) (by omega) (by omega)
        by_cases e : j = m - 1
        · subst e; omega
        · have a2 := hle j (m - 1) (by omega) (by omega) (by omega)
          omega
theorem asc_normZ (l : List Int) : Asc (normZ l) := by
  refine asc_compactUpTo _ ?_ _ (Nat.le_refl _)
  unfold sortZ
  have := List.pairwise_mergeSort (le := fun x y : Int => decide (x ≤ y)) (fun a b c h1 h2 => by simp at *; omega) (fun a b => by simp; omega) l
  exact this.imp fun h => by simpa using h
theorem normZ_eq {l m : List Int} (hm : Asc m) (h : ∀ x, x ∈ l ↔ x ∈ m) : normZ l = m := asc_ext (asc_normZ l) hm fun x => mem_normZ_iff.trans (h x)
theorem normZ_asc {l : List Int} (h : Asc l) : normZ l = l := normZ_eq h fun _ => .rfl
def insZ (l : List Int) (r : Int) : List Int := l.filter (fun x => decide (x < r)) ++ r :: l.filter (fun x => decide (r < x))
theorem mem_insZ {l : List Int} {r x : Int} : x ∈ insZ l r ↔ x ∈ l ∨ x = r := by
  unfold insZ
  simp only [List.mem_append, List.mem_filter, List.mem_cons, decide_eq_true_eq]
  constructor
  · rintro (⟨h, _⟩ | h | ⟨h, _⟩)
    · exact .inl h
    · exact .inr h
    · exact .inl h
  · rintro (h | h)
    · rcases Int.lt_trichotomy x r with c | c | c
      · exact .inl ⟨h, c⟩
      · exact .inr (.inl c)
      · exact .inr (.inr ⟨h, c⟩)
    · exact .inr (.inl h)
theorem asc_insZ {l : List Int} (h : Asc l) (r : Int) : Asc (insZ l r) := by
  unfold insZ
  refine List.pairwise_append.2 ⟨h.filter _, List.pairwise_cons.2 ⟨fun a ha => ?_, h.filter _⟩, fun a ha b hb => ?_⟩
  · simpa using (List.mem_filter.1 ha).2
  · have h1 : a < r := by simpa using (List.mem_filter.1 ha).2
    rcases List.mem_cons.1 hb with rfl | hb
    · exact h1
    · have h2 : r < b := by simpa using (List.mem_filter.1 hb).2
      omega
theorem insZ_normZ (l : List Int) (r : Int) : insZ (normZ l) r = normZ (l ++ [r]) :=
  (normZ_eq (asc_insZ (asc_normZ l) r) fun x => by rw [mem_insZ, mem_normZ_iff]; simp).symm
theorem asc_nil : Asc [] := List.Pairwise.nil
theorem asc_one (x : Int) : Asc [x] := List.pairwise_singleton ..
def spanN (a : Int) (n : Nat) : List Int := (List.range n).map fun k => a + (k : Nat)
theorem spanN_zero (a : Int) : spanN a 0 = [] := rfl
theorem spanN_succ (a : Int) (n : Nat) : spanN a (n + 1) = spanN a n ++ [a + (n : Nat)] := by simp [spanN, List.range_succ]
theorem spanN_len (a : Int) (n : Nat) : (spanN a n).length = n := by simp [spanN]
theorem mem_spanN {a x : Int} {n : Nat} : x ∈ spanN a n ↔ a ≤ x ∧ x < a + n := by
  unfold spanN
  simp only [List.mem_map, List.mem_range]
  constructor
  · rintro ⟨k, h1, rfl⟩; omega
  · rintro ⟨h1, h2⟩; exact ⟨(x - a).toNat, by omega, by omega⟩
theorem asc_spanN (a : Int) : ∀ n, Asc (spanN a n)
  | 0 => asc_nil
  | n + 1 => by
    rw [spanN_succ]
    refine List.pairwise_append.2 ⟨asc_spanN a n, by simp, fun x hx y hy => ?_⟩
    rw [List.mem_singleton.1 hy]
    have := mem_spanN.1 hx; omega
end Go.Proofs.YtabdlpfhfmeppaaGreatDoor
