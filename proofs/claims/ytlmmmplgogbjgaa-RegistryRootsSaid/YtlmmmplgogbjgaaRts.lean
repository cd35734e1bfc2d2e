/-
  Registry: lists of identities, in the statements and in the reference. No condition.
-/
import Derived.Test.YtlmmmplgogbjgaaReg
import Derived.Test.YtlmmmplgogbjgaaSet
set_option linter.unusedVariables false
set_option linter.unusedSimpArgs false
set_option maxRecDepth 100000
set_option maxHeartbeats 0
namespace Go.Proofs.Ytlmmmplgogbjgaa
open Go.Abs
attribute [local irreducible] CallS Run
-- EV: Val.v, Val.row

def Val.obj (v : Val) : Bool := decide (v.k = 4 ∨ v.k = 5 ∨ v.k = 7 ∨ v.k = 8)
/-- The identities of the objects among values. -/
def idsL (l : List Val) : List Int := (l.filter Val.obj).map Val.r
theorem mem_idsL {l : List Val} {x : Int} : x ∈ idsL l ↔ ∃ v ∈ l, v.obj = true ∧ v.r = x := by
  simp [idsL, and_assoc]
theorem idsL_append (l m : List Val) : idsL (l ++ m) = idsL l ++ idsL m := by simp [idsL]
theorem idsL_cons (v : Val) (l : List Val) : idsL (v :: l) = if v.obj then v.r :: idsL l else idsL l := by
  unfold idsL; rw [List.filter_cons]; split <;> simp
theorem idsL_len (l : List Val) : (idsL l).length ≤ l.length := by simp [idsL]; exact List.length_filter_le _ _
theorem idsL_nil : idsL [] = [] := rfl

theorem has_pure (l : List Int) (x : Int) (hB : l.length ≤ 1000000) : Pure Try.prog 16 [.isl (l.map zrw), .int .i64 x] (.bool (decide (x ∈ l))) := by
  refine Pure.of 0 (CallS.enter scriptinglaw18_has_ok (Nat.le_of_ble_eq_true rfl) ?_)
  have hl : (l.map zrw).length = l.length := List.length_map ..
  have hr : ∀ (k : Nat) (x : Int), l[k]? = some x → (l.map zrw)[k]? = some [.int .i64 x] := fun k x h => by rw [List.getElem?_map, h]; rfl
  have hz := rowszZ l
  generalize l.map zrw = L at *
  refine Run.go 100 ?_
  simp -implicitDefEqProofs only [go_sem, Val.v, Val.row, initSl, hl]
  refine Run.rounds (fun (k : Nat) => ⟨[(5, .int .i64 k), (1, .int .i64 x), (0, .isl L)], [], 0⟩) (fun k => k ≤ l.length ∧ x ∉ l.take k) (fun k => l.length - k) 0 (by first | (simp -implicitDefEqProofs only [go_sem, Val.v, Val.row]; done) | (simp -implicitDefEqProofs only [go_sem, Val.v, Val.row]; simp)) ⟨by omega, by simp⟩ ?_
  rintro k ⟨hk, ht⟩ ih
  refine Run.unf scriptinglaw18_has_l0_eq (Run.go 100 ?_)
  by_cases c : (k : Int) < l.length
  rotate_left
  · have e : decide (x ∈ l) = false := by
      rw [List.take_of_length_le (by omega)] at ht
      simp [ht]
    rw [e]
    simp -implicitDefEqProofs only [go_sem, Val.v, Val.row, hl, c]
  obtain ⟨y, hy⟩ : ∃ y, l[k]? = some y := ⟨l[k]'(by omega), by simp⟩
  have hry := hr k y hy
  have k0 : ((0 : Int) ≤ (k : Int)) = True := eq_true (by omega)
  have k1 : ((k : Int) < (l.length : Int)) = True := eq_true c
  have k2 : (k < l.length) = True := eq_true (by omega)
  have hm := List.mem_of_getElem? hy
  by_cases d : y = x
  · subst d
    have e : decide (y ∈ l) = true := by simp [hm]
    rw [e]
    simp -implicitDefEqProofs only [go_sem, Val.v, Val.row, hl, hry, hz, k0, k1, k2, Option.some.injEq, forall_eq']
  · simp -implicitDefEqProofs only [go_sem, Val.v, Val.row, hl, hry, hz, k0, k1, k2, d, Option.some.injEq, forall_eq']
    refine ⟨by omega, ih _ (k + 1) ⟨by omega, ?_⟩ (by omega) (by first | (simp -implicitDefEqProofs only [go_sem, Val.v, Val.row]; done) | (simp -implicitDefEqProofs only [go_sem, Val.v, Val.row]; simp))⟩
    rw [List.take_add_one, hy]
    simp [ht]
    exact fun e => d e.symm

theorem subZ (l : List Int) : (l.map zrw).map (fun r => r.map (V.sub lost)) = l.map zrw := by
  rw [List.map_map]
  exact List.map_congr_left fun y _ => by simp [zrw, V.sub]

/-- What the statements make of identities and a value. -/
def withL (l : List Int) (v : Val) : List Int := if v.obj = true ∧ v.r ∉ l then l ++ [v.r] else l
theorem withL_len (l : List Int) (v : Val) : (withL l v).length ≤ l.length + 1 := by unfold withL; split <;> simp
theorem mem_withL {l : List Int} {v : Val} {x : Int} : x ∈ withL l v ↔ x ∈ l ∨ (v.obj = true ∧ v.r = x) := by
  unfold withL
  split
  · rename_i h; simp [h.1, eq_comm]
  · rename_i h
    constructor
    · exact .inl
    · rintro (h1 | ⟨h1, rfl⟩)
      · exact h1
      · by_cases hm : v.r ∈ l
        · exact hm
        · exact (h ⟨h1, hm⟩).elim
theorem nodup_withL {l : List Int} (h : l.Nodup) (v : Val) : (withL l v).Nodup := by
  unfold withL
  split
  · rename_i h2
    exact List.nodup_append.2 ⟨h, by simp, fun a ha b hb => by rw [List.mem_singleton.1 hb]; exact fun e => h2.2 (e ▸ ha)⟩
  · exact h
theorem obj_no {v : Val} (h1 : ¬ v.k = 4) (h2 : ¬ v.k = 5) (h3 : ¬ v.k = 7) (h4 : ¬ v.k = 8) : v.obj = false := by simp [Val.obj, h1, h2, h3, h4]
theorem lwith_pure (l : List Int) (v : Val) (hB : l.length ≤ 1000) : Pure Try.prog 14 [.isl (l.map zrw), v.v] (.isl ((withL l v).map zrw)) := by
  have hz := rowszZ l
  have hp := has_pure l v.r (by omega)
  have hf := frzZ 0 [] l
  by_cases ho : v.obj = true
  rotate_left
  · have h0 : v.obj = false := by simpa using ho
    have hk : withL l v = l := by unfold withL; rw [if_neg (fun h => ho h.1)]
    rw [hk]
    have n1 : (v.k = 4) = False := eq_false fun h => by simp [Val.obj, h] at h0
    have n2 : (v.k = 5) = False := eq_false fun h => by simp [Val.obj, h] at h0
    have n3 : (v.k = 7) = False := eq_false fun h => by simp [Val.obj, h] at h0
    have n4 : (v.k = 8) = False := eq_false fun h => by simp [Val.obj, h] at h0
    refine Pure.of 0 (CallS.enter scriptinglaw18_with_ok (Nat.le_of_ble_eq_true rfl) (Run.go 100 ?_))
    simp -implicitDefEqProofs only [go_sem, Val.v, Val.row, initSl, n1, n2, n3, n4]
    exact frzZ _ _ l
  · by_cases hm : v.r ∈ l
    · have hk : withL l v = l := by unfold withL; rw [if_neg (fun h => h.2 hm)]
      rw [hk]
      rw [decide_eq_true hm] at hp
      refine Pure.of 0 (CallS.enter scriptinglaw18_with_ok (Nat.le_of_ble_eq_true rfl) (Run.go 100 ?_))
      simp -implicitDefEqProofs only [go_sem, Val.v, Val.row, initSl]
      refine ⟨fun c1 => ⟨fun c2 => ⟨fun c3 => ⟨fun c4 => ?_, fun c4 => ?_⟩, fun c3 => ?_⟩, fun c2 => ?_⟩, fun c1 => ?_⟩
      rotate_left
      · rw [obj_no c1 c2 c3 (by simpa using c4)] at ho; cases ho
      all_goals
        refine CallS.pureF hp (by simp -implicitDefEqProofs only [go_sem, Val.v, Val.row, subZ]) ?_
        simp -implicitDefEqProofs only [go_sem, Val.v, Val.row]
        exact frzZ _ _ l
    · have hk : withL l v = l ++ [v.r] := by unfold withL; rw [if_pos ⟨ho, hm⟩]
      rw [hk]
      rw [decide_eq_false hm] at hp
      refine Pure.of 1 (CallS.enter scriptinglaw18_with_ok (Nat.le_of_ble_eq_true rfl) (Run.go 100 ?_))
      simp -implicitDefEqProofs only [go_sem, Val.v, Val.row, initSl]
      refine ⟨fun c1 => ⟨fun c2 => ⟨fun c3 => ⟨fun c4 => ?_, fun c4 => ?_⟩, fun c3 => ?_⟩, fun c2 => ?_⟩, fun c1 => ?_⟩
      rotate_left
      · rw [obj_no c1 c2 c3 (by simpa using c4)] at ho; cases ho
      all_goals
        refine CallS.pureF hp (by simp -implicitDefEqProofs only [go_sem, Val.v, Val.row, subZ]) ?_
        simp -implicitDefEqProofs only [go_sem, Val.v, Val.row, hz]
        refine ⟨by omega, by omega, ?_⟩
        rw [show l.map zrw ++ [[V.int .i64 v.r]] = (l ++ [v.r]).map zrw from by simp [zrw], List.take_of_length_le (by simp)]
        exact frzZ _ _ _

/-- An identity put among ascending ones. -/
def insR (z : Int) : List Int → List Int
  | [] => [z]
  | x :: r => if x < z then x :: insR z r else if x = z then x :: r else z :: x :: r
def posR (z : Int) : List Int → Nat
  | [] => 0
  | x :: r => if x < z then posR z r + 1 else 0
theorem posR_le (z : Int) : ∀ l : List Int, posR z l ≤ l.length
  | [] => Nat.le_refl _
  | x :: r => by rw [posR]; have := posR_le z r; split <;> simp <;> omega
theorem posR_at {z : Int} : ∀ {l : List Int} {i : Nat} {y : Int}, i ≤ posR z l → l[i]? = some y → (y < z → i + 1 ≤ posR z l) ∧ (¬ y < z → posR z l = i)
  | [], i, y, _, h => by simp at h
  | x :: r, 0, y, _, h => by
    simp at h
    subst h
    rw [posR]
    exact ⟨fun c => by rw [if_pos c]; omega, fun c => by rw [if_neg c]⟩
  | x :: r, i + 1, y, hi, h => by
    rw [posR] at hi ⊢
    by_cases c : x < z
    · rw [if_pos c] at hi ⊢
      have := posR_at (z := z) (l := r) (i := i) (y := y) (by omega) (by simpa using h)
      exact ⟨fun d => by have := this.1 d; omega, fun d => by have := this.2 d; omega⟩
    · rw [if_neg c] at hi; omega
theorem insR_pos (z : Int) : ∀ l : List Int, insR z l = if l[posR z l]? = some z then l else l.take (posR z l) ++ z :: l.drop (posR z l)
  | [] => by simp [insR, posR]
  | x :: r => by
    rw [insR, posR]
    by_cases c : x < z
    · rw [if_pos c, if_pos c, insR_pos z r]
      simp only [List.getElem?_cons_succ, List.take_succ_cons, List.drop_succ_cons]
      split <;> rfl
    · rw [if_neg c, if_neg c]
      by_cases d : x = z
      · simp [d]
      · simp [d]
theorem mem_insR {z x : Int} : ∀ {l : List Int}, x ∈ insR z l ↔ x = z ∨ x ∈ l
  | [] => by simp [insR]
  | y :: r => by
    rw [insR]
    split
    · rw [List.mem_cons, mem_insR, List.mem_cons]
      constructor
      · rintro (h | h | h) <;> simp [h]
      · rintro (h | h | h) <;> simp [h]
    · split
      · rename_i h; subst h; simp
      · simp
theorem asc_insR {z : Int} : ∀ {l : List Int}, Asc l → Asc (insR z l)
  | [], _ => asc_one z
  | y :: r, h => by
    obtain ⟨h1, h2⟩ := List.pairwise_cons.1 h
    rw [insR]
    split
    · rename_i c
      refine List.pairwise_cons.2 ⟨fun a ha => ?_, asc_insR h2⟩
      rcases mem_insR.1 ha with rfl | ha
      · exact c
      · exact h1 a ha
    · rename_i c
      split
      · exact h
      · rename_i d
        refine List.pairwise_cons.2 ⟨fun a ha => ?_, h⟩
        rcases List.mem_cons.1 ha with rfl | ha
        · omega
        · have := h1 a ha; omega
theorem insR_len (z : Int) : ∀ l : List Int, (insR z l).length ≤ l.length + 1
  | [] => by simp [insR]
  | x :: r => by rw [insR]; have := insR_len z r; split; simp; omega; split <;> simp

/-- What the reference makes of identities and a value. -/
def insV (l : List Int) (v : Val) : List Int := if v.obj = true then insR v.r l else l
theorem insV_len (l : List Int) (v : Val) : (insV l v).length ≤ l.length + 1 := by unfold insV; split; exact insR_len _ _; omega
theorem foldV_len : ∀ (m : List Val) (l : List Int), (m.foldl insV l).length ≤ l.length + m.length
  | [], l => by simp
  | v :: m, l => by
    rw [List.foldl_cons]
    have := foldV_len m (insV l v)
    have := insV_len l v
    simp only [List.length_cons]; omega
theorem foldV_eq : ∀ (m : List Val) (l : List Int), m.foldl insV (normZ l) = normZ (l ++ idsL m)
  | [], l => by simp [idsL]
  | v :: m, l => by
    rw [List.foldl_cons, idsL_cons, insV]
    split
    · rw [show insR v.r (normZ l) = normZ (l ++ [v.r]) from (normZ_eq (asc_insR (asc_normZ l)) fun x => by rw [mem_insR, mem_normZ_iff]; simp [or_comm]).symm, foldV_eq m]
      simp
    · exact foldV_eq m l
theorem foldV_nil (m : List Val) : m.foldl insV [] = normZ (idsL m) := by
  have := foldV_eq m []
  rwa [normZ_nil, List.nil_append] at this
theorem rwith_pure (l : List Int) (v : Val) (hB : l.length ≤ 10000) : Pure Try.prog 36 [.isl (l.map zrw), v.v] (.isl ((insV l v).map zrw)) := by
  have hl : (l.map zrw).length = l.length := List.length_map ..
  have hr : ∀ (k : Nat) (x : Int), l[k]? = some x → (l.map zrw)[k]? = some [.int .i64 x] := fun k x h => by rw [List.getElem?_map, h]; rfl
  have hz := rowszZ l
  by_cases ho : v.obj = true
  rotate_left
  · have h0 : v.obj = false := by simpa using ho
    have hk : insV l v = l := by unfold insV; rw [if_neg ho]
    rw [hk]
    have n1 : (v.k = 4) = False := eq_false fun h => by simp [Val.obj, h] at h0
    have n2 : (v.k = 5) = False := eq_false fun h => by simp [Val.obj, h] at h0
    have n3 : (v.k = 7) = False := eq_false fun h => by simp [Val.obj, h] at h0
    have n4 : (v.k = 8) = False := eq_false fun h => by simp [Val.obj, h] at h0
    refine Pure.of 0 (CallS.enter scriptingref18_with_ok (Nat.le_of_ble_eq_true rfl) (Run.go 100 ?_))
    simp -implicitDefEqProofs only [go_sem, Val.v, Val.row, initSl, n1, n2, n3, n4]
    exact frzZ _ _ l
  have hk : insV l v = insR v.r l := by unfold insV; rw [if_pos ho]
  rw [hk, insR_pos]
  have hp := posR_le v.r l
  have hT : ∀ k, (l.map zrw).take k = (l.take k).map zrw := fun k => List.map_take.symm
  have hD : ∀ k, (l.map zrw).drop k = (l.drop k).map zrw := fun k => List.map_drop.symm
  have hfz : ∀ (d : Nat) (h : Heap), (l.map zrw).map (fun r => r.map (frz d h)) = l.map zrw := fun d h => frzZ d h l
  have hcat : ∀ k, ((l.take k).map zrw ++ [[V.int .i64 v.r]]) ++ (l.drop k).map zrw = (l.take k ++ v.r :: l.drop k).map zrw := fun k => by simp [zrw]
  have hins : ∀ k (h : Heap), ((l.take k ++ v.r :: l.drop k).map zrw).map (fun r => r.map (frz 0 h)) = (l.take k ++ v.r :: l.drop k).map zrw := fun k h => frzZ 0 h _
  refine Pure.of 1 (CallS.enter scriptingref18_with_ok (Nat.le_of_ble_eq_true rfl) (Run.go 100 ?_))
  simp -implicitDefEqProofs only [go_sem, Val.v, Val.row, initSl]
  refine ⟨fun c1 => ⟨fun c2 => ⟨fun c3 => ⟨fun c4 => ?_, fun c4 => ?_⟩, fun c3 => ?_⟩, fun c2 => ?_⟩, fun c1 => ?_⟩
  · rw [obj_no c1 c2 c3 c4] at ho; cases ho
  all_goals
    clear hk
    refine Run.rounds (fun (k : Nat) => ⟨[(5, .int .i64 k), (3, .ptr (36 * 10000 + 3) 0 0 0), (0, .isl (l.map zrw))], [((36 * 10000 + 3), 0, .rows 5 [[.int .i64 v.k, .int .i64 v.p, .int .i64 v.q, .str v.s, .int .i64 v.r]])], 1⟩) (fun k => k ≤ posR v.r l) (fun k => l.length - k) 0 (by first | (simp -implicitDefEqProofs only [go_sem, Val.v, Val.row]; done) | (simp -implicitDefEqProofs only [go_sem, Val.v, Val.row]; simp)) (Nat.zero_le _) ?_
    intro k hk ih
    have k0 : ((0 : Int) ≤ (k : Int)) = True := eq_true (by omega)
    refine Run.unf scriptingref18_with_l0_eq (Run.go 100 ?_)
    by_cases c : (k : Int) < l.length
    · obtain ⟨y, hy⟩ : ∃ y, l[k]? = some y := ⟨l[k]'(by omega), by simp⟩
      have hry := hr k y hy
      have k1 : ((k : Int) < (l.length : Int)) = True := eq_true c
      have k2 : (k < l.length) = True := eq_true (by omega)
      have k3 : ((k : Int) ≤ (l.length : Int)) = True := eq_true (by omega)
      obtain ⟨p1, p2⟩ := posR_at hk hy
      by_cases d : y < v.r
      · have := p1 d
        generalize l.map zrw = L at *
        simp -implicitDefEqProofs only [go_sem, Val.v, Val.row, hl, hry, hz, k0, k1, k2, d, Option.some.injEq, forall_eq']
        exact ⟨by omega, ih _ (k + 1) this (by omega) (by first | (simp -implicitDefEqProofs only [go_sem, Val.v, Val.row]; done) | (simp -implicitDefEqProofs only [go_sem, Val.v, Val.row]; simp))⟩
      · have hpk := p2 d
        rw [hpk]
        by_cases e : y = v.r
        · rw [if_pos (by rw [hy, e])]
          generalize l.map zrw = L at *
          simp -implicitDefEqProofs only [go_sem, Val.v, Val.row, hl, hry, hz, k0, k1, k2, d, e, Option.some.injEq, forall_eq', Int.lt_irrefl]
          exact hfz _ _
        · rw [if_neg (by rw [hy]; simpa using e)]
          have hTk := hT k
          have hDk := hD k
          have a1 : ((k : Int) - 0).toNat = k := by omega
          have a2 : List.take ((l.length : Int) - (k : Int)).toNat ((l.drop k).map zrw) = (l.drop k).map zrw := List.take_of_length_le (by first | (simp; done) | (simp; omega))
          have a3 : ((l.take k).map zrw).length = k := by simp; omega
          have a4 : ((l.drop k).map zrw).length = l.length - k := by simp
          have a5 := rowszZ (l.take k)
          have a6 := rowszZ (l.drop k)
          have a7 : List.take (k + 1) ((l.take k).map zrw ++ [[V.int .i64 v.r]]) = (l.take k).map zrw ++ [[V.int .i64 v.r]] := List.take_of_length_le (by first | (simp; done) | (simp; omega))
          have a8 : List.take (k + 1 + (l.length - k)) ((l.take k).map zrw ++ [[V.int .i64 v.r]] ++ (l.drop k).map zrw) = (l.take k ++ v.r :: l.drop k).map zrw := by rw [hcat, List.take_of_length_le (by first | (simp; done) | (simp; omega))]
          have b1 : (k ≤ 137438953472) = True := eq_true (by omega)
          have b2 : (k ≤ 137438953471) = True := eq_true (by omega)
          have b3 : (k + 1 + (l.length - k) ≤ 137438953472) = True := eq_true (by omega)
          generalize l.map zrw = L at *
          simp -implicitDefEqProofs only [go_sem, Val.v, Val.row, hl, hry, hz, k0, k1, k2, k3, d, e, hTk, hDk, a1, a2, a3, a4, a5, a6, a7, a8, b1, b2, b3, Nat.le_refl, Int.le_refl, Option.some.injEq, forall_eq']
          exact hins k _
    · have hpk : posR v.r l = k := by omega
      have hkl : k = l.length := by omega
      rw [hpk, if_neg (by rw [hkl]; simp)]
      have k1 : ((k : Int) < (l.length : Int)) = False := eq_false c
      have k3 : ((k : Int) ≤ (l.length : Int)) = True := eq_true (by omega)
      have hTk := hT k
      have hDk := hD k
      have a1 : ((k : Int) - 0).toNat = k := by omega
      have a2 : List.take ((l.length : Int) - (k : Int)).toNat ((l.drop k).map zrw) = (l.drop k).map zrw := List.take_of_length_le (by first | (simp; done) | (simp; omega))
      have a3 : ((l.take k).map zrw).length = k := by simp; omega
      have a4 : ((l.drop k).map zrw).length = l.length - k := by simp
      have a5 := rowszZ (l.take k)
      have a6 := rowszZ (l.drop k)
      have a7 : List.take (k + 1) ((l.take k).map zrw ++ [[V.int .i64 v.r]]) = (l.take k).map zrw ++ [[V.int .i64 v.r]] := List.take_of_length_le (by first | (simp; done) | (simp; omega))
      have a8 : List.take (k + 1 + (l.length - k)) ((l.take k).map zrw ++ [[V.int .i64 v.r]] ++ (l.drop k).map zrw) = (l.take k ++ v.r :: l.drop k).map zrw := by rw [hcat, List.take_of_length_le (by first | (simp; done) | (simp; omega))]
      have b1 : (k ≤ 137438953472) = True := eq_true (by omega)
      have b2 : (k ≤ 137438953471) = True := eq_true (by omega)
      have b3 : (k + 1 + (l.length - k) ≤ 137438953472) = True := eq_true (by omega)
      generalize l.map zrw = L at *
      simp -implicitDefEqProofs only [go_sem, Val.v, Val.row, hl, hz, k0, k1, k3, hTk, hDk, a1, a2, a3, a4, a5, a6, a7, a8, b1, b2, b3, Nat.le_refl, Int.le_refl, Option.some.injEq, forall_eq']
      exact hins k _
end Go.Proofs.Ytlmmmplgogbjgaa
