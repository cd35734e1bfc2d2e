/-
  Visible variables; lines. No condition.
-/
import Derived.Test.YtmhbbaheponmoaaDoorFnM9
import Derived.Test.YtmhbbaheponmoaaDoorFnV
set_option linter.unusedVariables false
set_option linter.unusedSimpArgs false
set_option maxRecDepth 100000
set_option maxHeartbeats 0
namespace Go.Proofs.YtmhbbaheponmoaaDoor
open Go.Abs
attribute [local irreducible] CallS Run RndS

def lineZ (p : Fn) (z : Int) : Int := if z < 0 ∨ (p.lines.length : Int) ≤ z then 0 else p.lines[z.toNat]?.getD 0

theorem line_pure (p : Fn) (hp : p.bd) (z : Int) : Pure Tryd.prog 23 [.agg p.row, .int .i64 z] (.int .i64 (lineZ p z)) := by
  obtain ⟨h1, h2⟩ := fn_row11 p
  have hlz := hp.self.lines
  have h6 : p.row[6]? = some (.isl (p.lines.map lrow)) := by rw [Fn.row_eq]; rfl
  have k1 : (p.lines.map lrow).length = p.lines.length := List.length_map ..
  have zi := eq_true (rowsz_of lrow 1 (fun _ => rfl) p.lines)
  have ri : ∀ (k : Nat) x, p.lines[k]? = some x → (p.lines.map lrow)[k]? = some (lrow x) := fun k x hk => by rw [List.getElem?_map, hk]; rfl
  generalize p.lines.map lrow = rlines at *
  generalize p.row = pr at *
  refine Pure.of 0 (CallS.enter proto_Line_ok (Nat.le_of_ble_eq_true rfl) (Run.go 100 ?_))
  by_cases c1 : z < 0
  · have e : lineZ p z = 0 := if_pos (.inl c1)
    simp -implicitDefEqProofs only [go_sem, Nat.reduceEqDiff, Nat.reduceAdd, Nat.reduceSub, Nat.reduceMul, Nat.reduceLeDiff, Nat.reduceLT, Nat.reduceBEq, Int.reduceToNat, Int.reduceLE, Int.reduceLT, Int.reduceEq, Int.reduceNe, Int.reduceAdd, Int.reduceSub, Int.reduceNeg, Int.toNat_natCast, Int.cast_ofNat_Int, Int.natCast_zero, Int.natCast_one, reduceCtorEq, reduceIte, Nat.lt_irrefl, and_self, not_false_eq_true, not_true_eq_false, initSl, c1, e, h1, h2]
  by_cases c2 : (p.lines.length : Int) ≤ z
  · have e : lineZ p z = 0 := if_pos (.inr c2)
    simp -implicitDefEqProofs only [go_sem, Nat.reduceEqDiff, Nat.reduceAdd, Nat.reduceSub, Nat.reduceMul, Nat.reduceLeDiff, Nat.reduceLT, Nat.reduceBEq, Int.reduceToNat, Int.reduceLE, Int.reduceLT, Int.reduceEq, Int.reduceNe, Int.reduceAdd, Int.reduceSub, Int.reduceNeg, Int.toNat_natCast, Int.cast_ofNat_Int, Int.natCast_zero, Int.natCast_one, reduceCtorEq, reduceIte, Nat.lt_irrefl, and_self, not_false_eq_true, not_true_eq_false, initSl, c1, c2, h1, h2, h6, k1, e, ge_iff_le]
  obtain ⟨x, hx⟩ : ∃ x, p.lines[z.toNat]? = some x := ⟨p.lines[z.toNat]'(by omega), by simp⟩
  have e : lineZ p z = x := by rw [lineZ, if_neg (by omega), hx]; rfl
  have hxr := ri _ x hx
  have q0 : (z < (p.lines.length : Int)) = True := eq_true (by omega)
  have q1 : (z.toNat < p.lines.length) = True := eq_true (by omega)
  have q2 : (0 ≤ z) = True := eq_true (by omega)
  simp -implicitDefEqProofs only [go_sem, Nat.reduceEqDiff, Nat.reduceAdd, Nat.reduceSub, Nat.reduceMul, Nat.reduceLeDiff, Nat.reduceLT, Nat.reduceBEq, Int.reduceToNat, Int.reduceLE, Int.reduceLT, Int.reduceEq, Int.reduceNe, Int.reduceAdd, Int.reduceSub, Int.reduceNeg, Int.toNat_natCast, Int.cast_ofNat_Int, Int.natCast_zero, Int.natCast_one, reduceCtorEq, reduceIte, Nat.lt_irrefl, and_self, not_false_eq_true, not_true_eq_false, initSl, c1, c2, h1, h2, h6, k1, zi, hxr, lrow, q0, q1, q2, ge_iff_le, Option.some.injEq, forall_eq', e]

theorem rline_pure (p : Fn) (hp : p.bd) (z : Int) : Pure Tryd.prog 24 [.agg p.row, .int .i64 z] (.int .i64 (lineZ p z)) := by
  obtain ⟨h1, h2⟩ := fn_row11 p
  have hlz := hp.self.lines
  have h6 : p.row[6]? = some (.isl (p.lines.map lrow)) := by rw [Fn.row_eq]; rfl
  have k1 : (p.lines.map lrow).length = p.lines.length := List.length_map ..
  have zi := eq_true (rowsz_of lrow 1 (fun _ => rfl) p.lines)
  have ri : ∀ (k : Nat) x, p.lines[k]? = some x → (p.lines.map lrow)[k]? = some (lrow x) := fun k x hk => by rw [List.getElem?_map, hk]; rfl
  generalize p.lines.map lrow = rlines at *
  generalize p.row = pr at *
  refine Pure.of 0 (CallS.enter scriptingref33_Line_ok (Nat.le_of_ble_eq_true rfl) (Run.go 100 ?_))
  by_cases c1 : z < 0
  · have e : lineZ p z = 0 := if_pos (.inl c1)
    simp -implicitDefEqProofs only [go_sem, Nat.reduceEqDiff, Nat.reduceAdd, Nat.reduceSub, Nat.reduceMul, Nat.reduceLeDiff, Nat.reduceLT, Nat.reduceBEq, Int.reduceToNat, Int.reduceLE, Int.reduceLT, Int.reduceEq, Int.reduceNe, Int.reduceAdd, Int.reduceSub, Int.reduceNeg, Int.toNat_natCast, Int.cast_ofNat_Int, Int.natCast_zero, Int.natCast_one, reduceCtorEq, reduceIte, Nat.lt_irrefl, and_self, not_false_eq_true, not_true_eq_false, initSl, c1, e, h1, h2]
  by_cases c2 : (p.lines.length : Int) ≤ z
  · have e : lineZ p z = 0 := if_pos (.inr c2)
    simp -implicitDefEqProofs only [go_sem, Nat.reduceEqDiff, Nat.reduceAdd, Nat.reduceSub, Nat.reduceMul, Nat.reduceLeDiff, Nat.reduceLT, Nat.reduceBEq, Int.reduceToNat, Int.reduceLE, Int.reduceLT, Int.reduceEq, Int.reduceNe, Int.reduceAdd, Int.reduceSub, Int.reduceNeg, Int.toNat_natCast, Int.cast_ofNat_Int, Int.natCast_zero, Int.natCast_one, reduceCtorEq, reduceIte, Nat.lt_irrefl, and_self, not_false_eq_true, not_true_eq_false, initSl, c1, c2, h1, h2, h6, k1, e, ge_iff_le]
  obtain ⟨x, hx⟩ : ∃ x, p.lines[z.toNat]? = some x := ⟨p.lines[z.toNat]'(by omega), by simp⟩
  have e : lineZ p z = x := by rw [lineZ, if_neg (by omega), hx]; rfl
  have hxr := ri _ x hx
  have q0 : (z < (p.lines.length : Int)) = True := eq_true (by omega)
  have q1 : (z.toNat < p.lines.length) = True := eq_true (by omega)
  have q2 : (0 ≤ z) = True := eq_true (by omega)
  simp -implicitDefEqProofs only [go_sem, Nat.reduceEqDiff, Nat.reduceAdd, Nat.reduceSub, Nat.reduceMul, Nat.reduceLeDiff, Nat.reduceLT, Nat.reduceBEq, Int.reduceToNat, Int.reduceLE, Int.reduceLT, Int.reduceEq, Int.reduceNe, Int.reduceAdd, Int.reduceSub, Int.reduceNeg, Int.toNat_natCast, Int.cast_ofNat_Int, Int.natCast_zero, Int.natCast_one, reduceCtorEq, reduceIte, Nat.lt_irrefl, and_self, not_false_eq_true, not_true_eq_false, initSl, c1, c2, h1, h2, h6, k1, zi, hxr, lrow, q0, q1, q2, ge_iff_le, Option.some.injEq, forall_eq', e]

def seen (z : Int) (v : Vr) : Bool := decide (v.lo ≤ z) && decide (z < v.hi)
def actL (p : Fn) (z : Int) : List Vr := p.vars.filter (seen z)

theorem active_pure (p : Fn) (hp : p.bd) (z : Int) : Pure Tryd.prog 21 [.agg p.row, .int .i64 z] (.isl ((actL p z).map Vr.row)) := by
  obtain ⟨h1, h2⟩ := fn_row11 p
  have hvz := hp.self.vars
  have h10 : p.row[10]? = some (.isl (p.vars.map Vr.row)) := by rw [Fn.row_eq]; rfl
  have k1 : (p.vars.map Vr.row).length = p.vars.length := List.length_map ..
  have zv := eq_true (rowsz_of Vr.row 5 (fun _ => rfl) p.vars)
  have rv : ∀ (k : Nat) x, p.vars[k]? = some x → (p.vars.map Vr.row)[k]? = some (Vr.row x) := fun k x hk => by rw [List.getElem?_map, hk]; rfl
  generalize p.vars.map Vr.row = rvars at *
  generalize p.row = pr at *
  have w0 : ((p.vars.take 0).filter (seen z)).map Vr.row = [] := rfl
  have ty : ∀ k x, p.vars[k]? = some x → seen z x = true → ((p.vars.take (k + 1)).filter (seen z)).map Vr.row = ((p.vars.take k).filter (seen z)).map Vr.row ++ [x.row] := fun k x hk hs => by rw [List.take_add_one, hk]; simp [hs]
  have tn : ∀ k x, p.vars[k]? = some x → seen z x = false → ((p.vars.take (k + 1)).filter (seen z)).map Vr.row = ((p.vars.take k).filter (seen z)).map Vr.row := fun k x hk hs => by rw [List.take_add_one, hk]; simp [hs]
  have ly : ∀ k x, p.vars[k]? = some x → seen z x = true → ((p.vars.take (k + 1)).filter (seen z)).length = ((p.vars.take k).filter (seen z)).length + 1 := fun k x hk hs => by rw [List.take_add_one, hk]; simp [hs]
  have ln : ∀ k x, p.vars[k]? = some x → seen z x = false → ((p.vars.take (k + 1)).filter (seen z)).length = ((p.vars.take k).filter (seen z)).length := fun k x hk hs => by rw [List.take_add_one, hk]; simp [hs]
  have uT : ∀ k, (((p.vars.take k).filter (seen z)).map Vr.row).length = ((p.vars.take k).filter (seen z)).length := fun k => List.length_map ..
  have u : ∀ k, k ≤ p.vars.length → ((p.vars.take k).filter (seen z)).length ≤ k := fun k hk => Nat.le_trans (List.length_filter_le ..) (by simp; omega)
  have wz : ((p.vars.take p.vars.length).filter (seen z)).map Vr.row = (actL p z).map Vr.row := by rw [List.take_length]; rfl
  have l0 : ((p.vars.take 0).filter (seen z)).length = 0 := rfl
  have g5 := fun d h => frz_rows (d := d) (h := h) fun φ => map_sub_rows φ _ (actL p z) fun x _ => Vr.row_sub φ x
  generalize (actL p z).map Vr.row = out at *
  generalize hT : (fun k => ((p.vars.take k).filter (seen z)).map Vr.row) = T
  have hT' : ∀ k, ((p.vars.take k).filter (seen z)).map Vr.row = T k := fun k => by rw [← hT]
  generalize hL : (fun k => ((p.vars.take k).filter (seen z)).length) = L
  have hL' : ∀ k, ((p.vars.take k).filter (seen z)).length = L k := fun k => by rw [← hL]
  simp only [hT', hL'] at w0 ty tn ly ln uT u wz l0
  clear hT hL hT' hL'
  refine Pure.of 1 (CallS.enter proto_Active_ok (Nat.le_of_ble_eq_true rfl) (Run.go 100 ?_))
  simp -implicitDefEqProofs only [go_sem, Nat.reduceEqDiff, Nat.reduceAdd, Nat.reduceSub, Nat.reduceMul, Nat.reduceLeDiff, Nat.reduceLT, Nat.reduceBEq, Int.reduceToNat, Int.reduceLE, Int.reduceLT, Int.reduceEq, Int.reduceNe, Int.reduceAdd, Int.reduceSub, Int.reduceNeg, Int.toNat_natCast, Int.cast_ofNat_Int, Int.natCast_zero, Int.natCast_one, reduceCtorEq, reduceIte, Nat.lt_irrefl, and_self, not_false_eq_true, not_true_eq_false, initSl, h1, h2, h10, k1]
  refine Run.roundsK (fun (x : Nat × Nat × Nat) => ⟨[(11, .int .i64 x.1), (10, .int .i64 p.vars.length), (9, .isl rvars), (5, .sl 77 x.2.1 0 (L x.1)), (2, .ptr (21 * 10000 + 2) 0 0 0), (1, .int .i64 z)], [(77, x.2.1, .rows 5 (T x.1)), ((21 * 10000 + 2), 0, .rows 11 [pr])], x.2.2⟩)
    (fun x => x.1 ≤ p.vars.length) (fun x => p.vars.length - x.1) (0, 1, 2) ?_ (Nat.zero_le _) ?_
  · simp only [l0, w0]
    refine .trans (.fresh 77 5 _ _ _) (.turn id ⟨.refl _, .refl _, .refl _, .nils, .refl _, .refl _, trivial⟩ (.at 0 rfl rfl (.refl _) (.at 1 rfl rfl (.refl _) trivial)))
  rintro ⟨k, st, m⟩ hk ih
  simp only at hk ih ⊢
  refine Run.unf proto_Active_l0_eq (Run.go 100 ?_)
  by_cases hlt : k < p.vars.length
  case pos =>
    have q0 : ((k : Int) < (p.vars.length : Int)) = True := eq_true (by omega)
    have q1 : ((0 : Int) ≤ (k : Int)) = True := eq_true (by omega)
    obtain ⟨x, hx⟩ : ∃ x, p.vars[k]? = some x := ⟨p.vars[k], by simp [hlt]⟩
    have hxr := rv k x hx
    have hTl := u k hk
    have hT1 := uT k
    have hap : (L k + 1 ≤ 137438953472) = True := eq_true (by omega)
    have hTt : (T k).take (L k) = T k := List.take_of_length_le (by omega)
    have hzk : ((k + 1 : Nat) : Int) = (k : Int) + 1 := by omega
    by_cases s1 : x.lo ≤ z
    case neg =>
      have ht := tn k x hx (by simp [seen, s1])
      have hl := ln k x hx (by simp [seen, s1])
      simp -implicitDefEqProofs only [go_sem, Nat.reduceEqDiff, Nat.reduceAdd, Nat.reduceSub, Nat.reduceMul, Nat.reduceLeDiff, Nat.reduceLT, Nat.reduceBEq, Int.reduceToNat, Int.reduceLE, Int.reduceLT, Int.reduceEq, Int.reduceNe, Int.reduceAdd, Int.reduceSub, Int.reduceNeg, Int.toNat_natCast, Int.cast_ofNat_Int, Int.natCast_zero, Int.natCast_one, reduceCtorEq, reduceIte, Nat.lt_irrefl, and_self, not_false_eq_true, not_true_eq_false, q0, q1, hlt, h1, h2, h10, k1, zv, hxr, Vr.row, s1, hT1, hap, hTt, Option.some.injEq, forall_eq', List.append_nil]
      refine ⟨by omega, ?_⟩
      exact ih _ (k + 1, st, m + 1) (by simp only; omega) (by simp only; omega) (Weak.wk (by simp -implicitDefEqProofs only [go_sem, Nat.reduceEqDiff, Nat.reduceAdd, Nat.reduceSub, Nat.reduceMul, Nat.reduceLeDiff, Nat.reduceLT, Nat.reduceBEq, Int.reduceToNat, Int.reduceLE, Int.reduceLT, Int.reduceEq, Int.reduceNe, Int.reduceAdd, Int.reduceSub, Int.reduceNeg, Int.toNat_natCast, Int.cast_ofNat_Int, Int.natCast_zero, Int.natCast_one, reduceCtorEq, reduceIte, Nat.lt_irrefl, and_self, not_false_eq_true, not_true_eq_false, hzk, ht, hl]))
    by_cases s2 : z < x.hi
    case neg =>
      have ht := tn k x hx (by simp [seen, s2])
      have hl := ln k x hx (by simp [seen, s2])
      simp -implicitDefEqProofs only [go_sem, Nat.reduceEqDiff, Nat.reduceAdd, Nat.reduceSub, Nat.reduceMul, Nat.reduceLeDiff, Nat.reduceLT, Nat.reduceBEq, Int.reduceToNat, Int.reduceLE, Int.reduceLT, Int.reduceEq, Int.reduceNe, Int.reduceAdd, Int.reduceSub, Int.reduceNeg, Int.toNat_natCast, Int.cast_ofNat_Int, Int.natCast_zero, Int.natCast_one, reduceCtorEq, reduceIte, Nat.lt_irrefl, and_self, not_false_eq_true, not_true_eq_false, q0, q1, hlt, h1, h2, h10, k1, zv, hxr, Vr.row, s1, s2, hT1, hap, hTt, Option.some.injEq, forall_eq', List.append_nil]
      refine ⟨by omega, ?_⟩
      exact ih _ (k + 1, st, m + 1) (by simp only; omega) (by simp only; omega) (Weak.wk (by simp -implicitDefEqProofs only [go_sem, Nat.reduceEqDiff, Nat.reduceAdd, Nat.reduceSub, Nat.reduceMul, Nat.reduceLeDiff, Nat.reduceLT, Nat.reduceBEq, Int.reduceToNat, Int.reduceLE, Int.reduceLT, Int.reduceEq, Int.reduceNe, Int.reduceAdd, Int.reduceSub, Int.reduceNeg, Int.toNat_natCast, Int.cast_ofNat_Int, Int.natCast_zero, Int.natCast_one, reduceCtorEq, reduceIte, Nat.lt_irrefl, and_self, not_false_eq_true, not_true_eq_false, hzk, ht, hl]))
    have ht := ty k x hx (by simp [seen, s1, s2])
    have hl := ly k x hx (by simp [seen, s1, s2])
    simp -implicitDefEqProofs only [go_sem, Nat.reduceEqDiff, Nat.reduceAdd, Nat.reduceSub, Nat.reduceMul, Nat.reduceLeDiff, Nat.reduceLT, Nat.reduceBEq, Int.reduceToNat, Int.reduceLE, Int.reduceLT, Int.reduceEq, Int.reduceNe, Int.reduceAdd, Int.reduceSub, Int.reduceNeg, Int.toNat_natCast, Int.cast_ofNat_Int, Int.natCast_zero, Int.natCast_one, reduceCtorEq, reduceIte, Nat.lt_irrefl, and_self, not_false_eq_true, not_true_eq_false, q0, q1, hlt, h1, h2, h10, k1, zv, hxr, Vr.row, s1, s2, hT1, hap, hTt, Option.some.injEq, forall_eq', List.append_nil]
    refine ⟨by omega, ?_⟩
    exact ih _ (k + 1, m + 1, m + 2) (by simp only; omega) (by simp only; omega) (Weak.wk (by simp -implicitDefEqProofs only [go_sem, Nat.reduceEqDiff, Nat.reduceAdd, Nat.reduceSub, Nat.reduceMul, Nat.reduceLeDiff, Nat.reduceLT, Nat.reduceBEq, Int.reduceToNat, Int.reduceLE, Int.reduceLT, Int.reduceEq, Int.reduceNe, Int.reduceAdd, Int.reduceSub, Int.reduceNeg, Int.toNat_natCast, Int.cast_ofNat_Int, Int.natCast_zero, Int.natCast_one, reduceCtorEq, reduceIte, Nat.lt_irrefl, and_self, not_false_eq_true, not_true_eq_false, hzk, ht, hl, Vr.row]))
  have ek : k = p.vars.length := by omega
  subst ek
  have lo : out.length = L p.vars.length := by rw [← wz]; exact uT _
  have tk1 : out.take (L p.vars.length) = out := List.take_of_length_le (by omega)
  simp -implicitDefEqProofs only [go_sem, Nat.reduceEqDiff, Nat.reduceAdd, Nat.reduceSub, Nat.reduceMul, Nat.reduceLeDiff, Nat.reduceLT, Nat.reduceBEq, Int.reduceToNat, Int.reduceLE, Int.reduceLT, Int.reduceEq, Int.reduceNe, Int.reduceAdd, Int.reduceSub, Int.reduceNeg, Int.toNat_natCast, Int.cast_ofNat_Int, Int.natCast_zero, Int.natCast_one, reduceCtorEq, reduceIte, Nat.lt_irrefl, and_self, not_false_eq_true, not_true_eq_false, Int.lt_irrefl, h1, h2, h10, k1, wz, lo, tk1, g5, Nat.le_refl]

theorem ractive_pure (p : Fn) (hp : p.bd) (z : Int) : Pure Tryd.prog 22 [.agg p.row, .int .i64 z] (.isl ((actL p z).map Vr.row)) := by
  obtain ⟨h1, h2⟩ := fn_row11 p
  have hvz := hp.self.vars
  have h10 : p.row[10]? = some (.isl (p.vars.map Vr.row)) := by rw [Fn.row_eq]; rfl
  have k1 : (p.vars.map Vr.row).length = p.vars.length := List.length_map ..
  have zv := eq_true (rowsz_of Vr.row 5 (fun _ => rfl) p.vars)
  have rv : ∀ (k : Nat) x, p.vars[k]? = some x → (p.vars.map Vr.row)[k]? = some (Vr.row x) := fun k x hk => by rw [List.getElem?_map, hk]; rfl
  generalize p.vars.map Vr.row = rvars at *
  generalize p.row = pr at *
  have w0 : ((p.vars.take 0).filter (seen z)).map Vr.row = [] := rfl
  have ty : ∀ k x, p.vars[k]? = some x → seen z x = true → ((p.vars.take (k + 1)).filter (seen z)).map Vr.row = ((p.vars.take k).filter (seen z)).map Vr.row ++ [x.row] := fun k x hk hs => by rw [List.take_add_one, hk]; simp [hs]
  have tn : ∀ k x, p.vars[k]? = some x → seen z x = false → ((p.vars.take (k + 1)).filter (seen z)).map Vr.row = ((p.vars.take k).filter (seen z)).map Vr.row := fun k x hk hs => by rw [List.take_add_one, hk]; simp [hs]
  have ly : ∀ k x, p.vars[k]? = some x → seen z x = true → ((p.vars.take (k + 1)).filter (seen z)).length = ((p.vars.take k).filter (seen z)).length + 1 := fun k x hk hs => by rw [List.take_add_one, hk]; simp [hs]
  have ln : ∀ k x, p.vars[k]? = some x → seen z x = false → ((p.vars.take (k + 1)).filter (seen z)).length = ((p.vars.take k).filter (seen z)).length := fun k x hk hs => by rw [List.take_add_one, hk]; simp [hs]
  have uT : ∀ k, (((p.vars.take k).filter (seen z)).map Vr.row).length = ((p.vars.take k).filter (seen z)).length := fun k => List.length_map ..
  have u : ∀ k, k ≤ p.vars.length → ((p.vars.take k).filter (seen z)).length ≤ k := fun k hk => Nat.le_trans (List.length_filter_le ..) (by simp; omega)
  have wz : ((p.vars.take p.vars.length).filter (seen z)).map Vr.row = (actL p z).map Vr.row := by rw [List.take_length]; rfl
  have l0 : ((p.vars.take 0).filter (seen z)).length = 0 := rfl
  have g5 := fun d h => frz_rows (d := d) (h := h) fun φ => map_sub_rows φ _ (actL p z) fun x _ => Vr.row_sub φ x
  generalize (actL p z).map Vr.row = out at *
  generalize hT : (fun k => ((p.vars.take k).filter (seen z)).map Vr.row) = T
  have hT' : ∀ k, ((p.vars.take k).filter (seen z)).map Vr.row = T k := fun k => by rw [← hT]
  generalize hL : (fun k => ((p.vars.take k).filter (seen z)).length) = L
  have hL' : ∀ k, ((p.vars.take k).filter (seen z)).length = L k := fun k => by rw [← hL]
  simp only [hT', hL'] at w0 ty tn ly ln uT u wz l0
  clear hT hL hT' hL'
  refine Pure.of 1 (CallS.enter scriptingref33_Active_ok (Nat.le_of_ble_eq_true rfl) (Run.go 100 ?_))
  simp -implicitDefEqProofs only [go_sem, Nat.reduceEqDiff, Nat.reduceAdd, Nat.reduceSub, Nat.reduceMul, Nat.reduceLeDiff, Nat.reduceLT, Nat.reduceBEq, Int.reduceToNat, Int.reduceLE, Int.reduceLT, Int.reduceEq, Int.reduceNe, Int.reduceAdd, Int.reduceSub, Int.reduceNeg, Int.toNat_natCast, Int.cast_ofNat_Int, Int.natCast_zero, Int.natCast_one, reduceCtorEq, reduceIte, Nat.lt_irrefl, and_self, not_false_eq_true, not_true_eq_false, initSl, h1, h2, h10, k1]
  refine Run.roundsK (fun (x : Nat × Nat × Nat) => ⟨[(6, .int .i64 x.1), (5, .sl 77 x.2.1 0 (L x.1)), (2, .ptr (22 * 10000 + 2) 0 0 0), (1, .int .i64 z)], [(77, x.2.1, .rows 5 (T x.1)), ((22 * 10000 + 2), 0, .rows 11 [pr])], x.2.2⟩)
    (fun x => x.1 ≤ p.vars.length) (fun x => p.vars.length - x.1) (0, 1, 2) ?_ (Nat.zero_le _) ?_
  · simp only [l0, w0]
    refine .trans (.fresh 77 5 _ _ _) (.turn id ⟨.refl _, .nils, .refl _, .refl _, trivial⟩ (.at 0 rfl rfl (.refl _) (.at 1 rfl rfl (.refl _) trivial)))
  rintro ⟨k, st, m⟩ hk ih
  simp only at hk ih ⊢
  refine Run.unf scriptingref33_Active_l0_eq (Run.go 100 ?_)
  by_cases hlt : k < p.vars.length
  case pos =>
    have q0 : ((k : Int) < (p.vars.length : Int)) = True := eq_true (by omega)
    have q1 : ((0 : Int) ≤ (k : Int)) = True := eq_true (by omega)
    obtain ⟨x, hx⟩ : ∃ x, p.vars[k]? = some x := ⟨p.vars[k], by simp [hlt]⟩
    have hxr := rv k x hx
    have hTl := u k hk
    have hT1 := uT k
    have hap : (L k + 1 ≤ 137438953472) = True := eq_true (by omega)
    have hTt : (T k).take (L k) = T k := List.take_of_length_le (by omega)
    have hzk : ((k + 1 : Nat) : Int) = (k : Int) + 1 := by omega
    by_cases s1 : x.lo ≤ z
    case neg =>
      have ht := tn k x hx (by simp [seen, s1])
      have hl := ln k x hx (by simp [seen, s1])
      simp -implicitDefEqProofs only [go_sem, Nat.reduceEqDiff, Nat.reduceAdd, Nat.reduceSub, Nat.reduceMul, Nat.reduceLeDiff, Nat.reduceLT, Nat.reduceBEq, Int.reduceToNat, Int.reduceLE, Int.reduceLT, Int.reduceEq, Int.reduceNe, Int.reduceAdd, Int.reduceSub, Int.reduceNeg, Int.toNat_natCast, Int.cast_ofNat_Int, Int.natCast_zero, Int.natCast_one, reduceCtorEq, reduceIte, Nat.lt_irrefl, and_self, not_false_eq_true, not_true_eq_false, q0, q1, hlt, h1, h2, h10, k1, zv, hxr, Vr.row, s1, hT1, hap, hTt, Option.some.injEq, forall_eq', List.append_nil]
      refine ⟨by omega, ?_⟩
      exact ih _ (k + 1, st, m) (by simp only; omega) (by simp only; omega) (Weak.wk (by simp -implicitDefEqProofs only [go_sem, Nat.reduceEqDiff, Nat.reduceAdd, Nat.reduceSub, Nat.reduceMul, Nat.reduceLeDiff, Nat.reduceLT, Nat.reduceBEq, Int.reduceToNat, Int.reduceLE, Int.reduceLT, Int.reduceEq, Int.reduceNe, Int.reduceAdd, Int.reduceSub, Int.reduceNeg, Int.toNat_natCast, Int.cast_ofNat_Int, Int.natCast_zero, Int.natCast_one, reduceCtorEq, reduceIte, Nat.lt_irrefl, and_self, not_false_eq_true, not_true_eq_false, hzk, ht, hl]))
    by_cases s2 : z < x.hi
    case neg =>
      have ht := tn k x hx (by simp [seen, s2])
      have hl := ln k x hx (by simp [seen, s2])
      simp -implicitDefEqProofs only [go_sem, Nat.reduceEqDiff, Nat.reduceAdd, Nat.reduceSub, Nat.reduceMul, Nat.reduceLeDiff, Nat.reduceLT, Nat.reduceBEq, Int.reduceToNat, Int.reduceLE, Int.reduceLT, Int.reduceEq, Int.reduceNe, Int.reduceAdd, Int.reduceSub, Int.reduceNeg, Int.toNat_natCast, Int.cast_ofNat_Int, Int.natCast_zero, Int.natCast_one, reduceCtorEq, reduceIte, Nat.lt_irrefl, and_self, not_false_eq_true, not_true_eq_false, q0, q1, hlt, h1, h2, h10, k1, zv, hxr, Vr.row, s1, s2, hT1, hap, hTt, Option.some.injEq, forall_eq', List.append_nil]
      refine ⟨by omega, ?_⟩
      exact ih _ (k + 1, st, m) (by simp only; omega) (by simp only; omega) (Weak.wk (by simp -implicitDefEqProofs only [go_sem, Nat.reduceEqDiff, Nat.reduceAdd, Nat.reduceSub, Nat.reduceMul, Nat.reduceLeDiff, Nat.reduceLT, Nat.reduceBEq, Int.reduceToNat, Int.reduceLE, Int.reduceLT, Int.reduceEq, Int.reduceNe, Int.reduceAdd, Int.reduceSub, Int.reduceNeg, Int.toNat_natCast, Int.cast_ofNat_Int, Int.natCast_zero, Int.natCast_one, reduceCtorEq, reduceIte, Nat.lt_irrefl, and_self, not_false_eq_true, not_true_eq_false, hzk, ht, hl]))
    have ht := ty k x hx (by simp [seen, s1, s2])
    have hl := ly k x hx (by simp [seen, s1, s2])
    simp -implicitDefEqProofs only [go_sem, Nat.reduceEqDiff, Nat.reduceAdd, Nat.reduceSub, Nat.reduceMul, Nat.reduceLeDiff, Nat.reduceLT, Nat.reduceBEq, Int.reduceToNat, Int.reduceLE, Int.reduceLT, Int.reduceEq, Int.reduceNe, Int.reduceAdd, Int.reduceSub, Int.reduceNeg, Int.toNat_natCast, Int.cast_ofNat_Int, Int.natCast_zero, Int.natCast_one, reduceCtorEq, reduceIte, Nat.lt_irrefl, and_self, not_false_eq_true, not_true_eq_false, q0, q1, hlt, h1, h2, h10, k1, zv, hxr, Vr.row, s1, s2, hT1, hap, hTt, Option.some.injEq, forall_eq', List.append_nil]
    refine ⟨by omega, ?_⟩
    exact ih _ (k + 1, m, m + 1) (by simp only; omega) (by simp only; omega) (Weak.wk (by simp -implicitDefEqProofs only [go_sem, Nat.reduceEqDiff, Nat.reduceAdd, Nat.reduceSub, Nat.reduceMul, Nat.reduceLeDiff, Nat.reduceLT, Nat.reduceBEq, Int.reduceToNat, Int.reduceLE, Int.reduceLT, Int.reduceEq, Int.reduceNe, Int.reduceAdd, Int.reduceSub, Int.reduceNeg, Int.toNat_natCast, Int.cast_ofNat_Int, Int.natCast_zero, Int.natCast_one, reduceCtorEq, reduceIte, Nat.lt_irrefl, and_self, not_false_eq_true, not_true_eq_false, hzk, ht, hl, Vr.row]))
  have ek : k = p.vars.length := by omega
  subst ek
  have lo : out.length = L p.vars.length := by rw [← wz]; exact uT _
  have tk1 : out.take (L p.vars.length) = out := List.take_of_length_le (by omega)
  simp -implicitDefEqProofs only [go_sem, Nat.reduceEqDiff, Nat.reduceAdd, Nat.reduceSub, Nat.reduceMul, Nat.reduceLeDiff, Nat.reduceLT, Nat.reduceBEq, Int.reduceToNat, Int.reduceLE, Int.reduceLT, Int.reduceEq, Int.reduceNe, Int.reduceAdd, Int.reduceSub, Int.reduceNeg, Int.toNat_natCast, Int.cast_ofNat_Int, Int.natCast_zero, Int.natCast_one, reduceCtorEq, reduceIte, Nat.lt_irrefl, and_self, not_false_eq_true, not_true_eq_false, Int.lt_irrefl, h1, h2, h10, k1, wz, lo, tk1, g5, Nat.le_refl]
end Go.Proofs.YtmhbbaheponmoaaDoor
