/-
  What 'opcode.span' and 'opcode.sorted' answer. No condition.
-/
import Derived.Test.YtkjcokmbjdafnaaDoorRwT
import Derived.Test.YtkjcokmbjdafnaaDoorCode
set_option linter.unusedVariables false
set_option linter.unusedSimpArgs false
set_option maxRecDepth 100000
set_option maxHeartbeats 0
namespace Go.Proofs.YtkjcokmbjdafnaaDoor
open Go.Abs
attribute [local irreducible] CallS Run
-- EV: Ins.v, Ins.row
theorem span_pure (a n : Int) (ha : -100000 ≤ a ∧ a ≤ 100000) (hn : n ≤ 100000) : Pure Tryd.prog 69 [.int .i64 a, .int .i64 n] (.tup [.isl ((spanP a n).1.map zrw), .int .i64 (spanP a n).2]) := by
  refine Pure.of 1 (CallS.enter opcode_span_ok (Nat.le_of_ble_eq_true rfl) ?_)
  refine Run.go 100 ?_
  by_cases h : n < 0
  · rw [spanP_neg h]
    simp -implicitDefEqProofs only [go_sem, Ins.v, Ins.row, initSl, h, List.map_nil]
  · rw [spanP_pos h]
    simp -implicitDefEqProofs only [go_sem, Ins.v, Ins.row, initSl, h]
    refine Run.roundsK (fun (x : Nat × Nat × Nat) => ⟨[(12, .int .i64 x.1), (11, .int .i64 n), (6, .sl (69 * 10000 + 20) x.2.1 0 (spanN a x.1).length), (0, .int .i64 a)], [((69 * 10000 + 20), x.2.1, .rows 1 ((spanN a x.1).map zrw))], x.2.2⟩)
      (fun x => x.1 ≤ n.toNat) (fun x => n.toNat - x.1) (0, 0, 1) ?_ (by simp only; omega) ?_
    · refine .trans (.fresh (69 * 10000 + 20) 1 _ _ _) (.turn id ?_ (.at 0 rfl rfl (.refl _) trivial))
      exact ⟨.refl _, .refl _, .nils, .refl _, trivial⟩
    rintro ⟨k, st, m⟩ hk ih
    simp only at hk ⊢
    have hz : ((k + 1 : Nat) : Int) = (k : Int) + 1 := by omega
    have hl := spanN_len a k
    refine Run.unf opcode_span_l0_eq (Run.go 100 ?_)
    by_cases c : (k : Int) < n
    · simp -implicitDefEqProofs only [go_sem, Ins.v, Ins.row, c]
      refine ⟨by omega, by omega, by omega, ?_⟩
      refine ih _ (k + 1, m, m + 1) (by simp only; omega) (by simp only; omega) (Weak.wk ?_)
      simp only [hz, spanN_succ, List.map_append, List.length_append, List.map_cons, List.map_nil, List.length_cons, List.length_nil, zrw]
      simp -implicitDefEqProofs only [go_sem, Ins.v, Ins.row]
    · have e : k = n.toNat := by omega
      subst e
      simp -implicitDefEqProofs only [go_sem, Ins.v, Ins.row, c]
      exact frzZ _ _ _
theorem asc_len : ∀ {l : List Int} {a b : Int}, Asc l → (∀ x ∈ l, a ≤ x) → (∀ x ∈ l, x < b) → (l.length : Int) ≤ max (b - a) 0
  | [], a, b, _, _, _ => by simp; omega
  | x :: l, a, b, h, h1, h2 => by
    obtain ⟨h3, h4⟩ := List.pairwise_cons.1 h
    have := asc_len (a := x + 1) (b := b) h4 (fun y hy => by have := h3 y hy; omega) (fun y hy => h2 y (List.mem_cons_of_mem _ hy))
    have hx := h1 x List.mem_cons_self
    have hx2 := h2 x List.mem_cons_self
    simp only [List.length_cons]
    omega
theorem norm_take (zs : List Int) (m : Nat) : (((normZ zs ++ List.replicate m 0).map zrw).take (normZ zs).length) = (normZ zs).map zrw := compact_take (sortZ zs) m
theorem rowszZ' (l : List Int) : rowsz (l.map zrw) 1 = True := eq_true fun r hr => by obtain ⟨y, _, rfl⟩ := List.mem_map.1 hr; rfl
theorem subZ' (l : List Int) : (l.map zrw).map (fun r => r.map (V.sub lost)) = l.map zrw := frzZ 0 [] l
theorem sorted_c (zs : List Int) {m : Nat} (hl : zs.length = m) (hm : 0 < m) (hB : m ≤ 100000) (b st n : Nat) :
    CallS Tryd.prog 68 [.sl b st 0 m] [(b, st, .rows 1 (zs.map zrw))] n (fun r h' _ => r = .sl b st 0 (normZ zs).length ∧ h' = [(b, st, .rows 1 ((normZ zs ++ List.replicate (m - (normZ zs).length) 0).map zrw))]) := by
  refine CallS.enter opcode_sorted_ok (Nat.le_of_ble_eq_true rfl) ?_
  refine Run.go 100 ?_
  simp -implicitDefEqProofs only [go_sem, Ins.v, Ins.row, initSl]
  refine CallS.at [0] [] (sort_m zs hl hm hB _ _ _) rfl rfl ?_
  rintro r h' n' hn ⟨rfl, rfl⟩
  simp -implicitDefEqProofs only [go_sem, Ins.v, Ins.row]
  refine CallS.at [0] [] (compact_m (sortZ zs) (m := m) (by simp [sortZ, hl]) hm hB _ _ _) rfl rfl ?_
  rintro r h' n' hn ⟨rfl, rfl⟩
  simp -implicitDefEqProofs only [go_sem, Ins.v, Ins.row, normZ]
end Go.Proofs.YtkjcokmbjdafnaaDoor
