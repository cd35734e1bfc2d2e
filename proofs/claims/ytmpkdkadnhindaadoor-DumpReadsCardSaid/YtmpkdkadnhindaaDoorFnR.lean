/-
  The reference's Each and Size. No condition.
-/
import Derived.Test.YtmpkdkadnhindaaDoorFnN
set_option linter.unusedVariables false
set_option linter.unusedSimpArgs false
set_option maxRecDepth 100000
set_option maxHeartbeats 0
namespace Go.Proofs.YtmpkdkadnhindaaDoor
open Go.Abs
attribute [local irreducible] CallS Run RndS

theorem nil_or_last {α : Type} (l : List α) : l = [] ∨ ∃ r x, l = r ++ [x] := by
  rcases List.eq_nil_or_concat l with h | ⟨r, x, h⟩
  · exact .inl h
  · exact .inr ⟨r, x, by simpa using h⟩
theorem take_row {R : List (List V)} {l : List Fn} {m k : Nat} {q : Fn} (h : R.take m = l.map Fn.row) (hk : l[k]? = some q) (hm : l.length = m) : R[k]? = some q.row := by
  have hlt := (List.getElem?_eq_some_iff.1 hk).1
  have : (R.take m)[k]? = some q.row := by rw [h, List.getElem?_map, hk]; rfl
  rwa [List.getElem?_take_of_lt (by omega)] at this
theorem take_init {R : List (List V)} {l : List Fn} {q : Fn} {m : Nat} (h : R.take (m + 1) = (l ++ [q]).map Fn.row) (hl : l.length = m) : R.take m = l.map Fn.row := by
  have := congrArg (List.take m) h
  rw [List.take_take, Nat.min_eq_left (by omega)] at this
  rw [this]
  simp [← hl]

theorem reach_call (p : Fn) (hp : p.bd) (hc : p.each.length ≤ 1000000) : Pure Tryd.prog 18 [.agg p.row] (.isl (p.each.map Fn.row)) := by
  obtain ⟨h1, h2⟩ := fn_row11 p
  have hfin := fun d h => frz_rows (d := d) (h := h) fun φ => Fn.rows_sub φ p.each
  refine Pure.of 1 (CallS.enter scriptingref33_Each_ok (Nat.le_of_ble_eq_true rfl) (Run.go 100 ?_))
  have hpr : [p.row] = [p].map Fn.row := rfl
  generalize hpr' : p.row = pr at *
  simp -implicitDefEqProofs only [go_sem, initSl, h1, h2]
  refine Run.roundsK (fun (x : List Fn × List (List V) × List Fn × Nat × Nat × Nat) => ⟨[(4, .sl (18 * 10000 + 42) x.2.2.2.1 0 x.1.length), (3, .sl (18 * 10000 + 26) x.2.2.2.2.1 0 x.2.2.1.length)],
      [((18 * 10000 + 42), x.2.2.2.1, .rows 11 x.2.1), ((18 * 10000 + 26), x.2.2.2.2.1, .rows 11 (x.2.2.1.map Fn.row))], x.2.2.2.2.2⟩)
    (fun x => x.2.1.take x.1.length = x.1.map Fn.row ∧ x.1.length ≤ x.2.1.length ∧ x.2.2.1 ++ Fn.eachs x.1.reverse = p.each) (fun x => (Fn.eachs x.1.reverse).length) ([p], [pr], [], 1, 2, 3) ?_ ⟨hpr, Nat.le_refl _, by simp [Fn.eachs]⟩ ?_
  · refine .trans (.fresh (18 * 10000 + 26) 11 _ _ _) (.turn (fun b => if b = (18 * 10000 + 9) then (18 * 10000 + 42) else b) ⟨.sl, .nils, trivial⟩ (.at 1 rfl rfl (.refl _) (.at 0 rfl rfl (.refl _) trivial)))
  rintro ⟨td, R, out, st, so, n⟩ ⟨hR, hRl, hO⟩ ih
  simp only at hR hRl hO ih ⊢
  have hol : (out.map Fn.row).length = out.length := List.length_map ..
  have hsum : out.length + (Fn.eachs td.reverse).length = p.each.length := by rw [← hO]; simp
  have hse := Fn.eachs_len td.reverse
  rw [List.length_reverse] at hse
  refine Run.unf scriptingref33_Each_l0_eq (Run.go 100 ?_)
  rcases nil_or_last td with rfl | ⟨td, q, rfl⟩
  · have hO' : out = p.each := by rw [← hO]; simp [Fn.eachs]
    subst hO'
    have e1 : (p.each.map Fn.row).take p.each.length = p.each.map Fn.row := List.take_of_length_le (by omega)
    generalize p.each.map Fn.row = es at *
    simp -implicitDefEqProofs only [go_sem, List.length_nil, hol, e1]
    exact hfin _ _
  · have hln : (td ++ [q]).length = td.length + 1 := by simp
    rw [hln] at hR hRl hse ⊢
    have q0 : ((0 : Int) < ((td.length + 1 : Nat) : Int)) = True := eq_true (by omega)
    have q1 : ((td.length + 1 : Nat) : Int) - 1 = (td.length : Int) := by omega
    have q2 : ((0 : Int) ≤ (td.length : Int)) = True := eq_true (by omega)
    have q3 : ((td.length : Int) < ((td.length + 1 : Nat) : Int)) = True := eq_true (by omega)
    have q4 : ((td.length : Int) ≤ ((td.length + 1 : Nat) : Int)) = True := eq_true (by omega)
    have hq := take_row (k := td.length) (q := q) hR (by simp) hln
    have hR0 := take_init hR rfl
    have hqm : q ∈ p.each := by rw [← hO]; exact List.mem_append.2 (.inr (by rw [List.reverse_append]; simp only [List.reverse_cons, List.reverse_nil, List.nil_append, List.cons_append]; rw [Fn.eachs]; exact List.mem_append.2 (.inl q.self_mem)))
    have hqp := (hp q hqm).protos
    obtain ⟨g1, g2⟩ := fn_row11 q
    have g8 : q.row[8]? = some (.isl (q.protos.map Fn.row)) := by rw [q.row_eq]; rfl
    have hpl : (q.protos.map Fn.row).length = q.protos.length := List.length_map ..
    have hrz := eq_true (rowsz_of Fn.row 11 Fn.row_len q.protos)
    have hap : (out.length + 1 ≤ 137438953472) = True := eq_true (by omega)
    have hotk : (out.map Fn.row).take out.length = out.map Fn.row := List.take_of_length_le (by omega)
    have q5 : td.length < R.length := by omega
    generalize hqr : q.row = qr at *
    generalize hes : q.protos.map Fn.row = es at *
    generalize hOR : out.map Fn.row = OR at *
    simp -implicitDefEqProofs only [go_sem, q0, q1, q2, q3, q4, q5, hq, g1, g2, g8, hol, hpl, hap, hotk, Option.some.injEq, forall_eq', List.append_nil]
    refine ⟨by omega, by omega, ?_⟩
    have hz0 : ((td.length : Int) - 0).toNat = td.length := by omega
    rw [hz0]
    have hpl2 : q.protos.length ≤ (Fn.eachs q.protos).length := Fn.eachs_len _
    have hqe : Fn.eachs (td ++ [q]).reverse = q :: (Fn.eachs q.protos ++ Fn.eachs td.reverse) := by rw [List.reverse_append]; simp only [List.reverse_cons, List.reverse_nil, List.nil_append, List.cons_append]; rw [Fn.eachs, Fn.each_eq]; rfl
    rw [hqe] at hO hsum ih
    have htl := Fn.eachs_len td.reverse
    rw [List.length_reverse] at htl
    simp only [List.length_cons, List.length_append] at hsum
    refine Run.roundsK (fun (x : Nat × List (List V) × Nat × Nat) => ⟨[(7, .int .i64 ((q.protos.length : Int) - 1 - x.1)), (6, .ptr (18 * 10000 + 6) n 0 0), (4, .sl (18 * 10000 + 42) x.2.2.1 0 (td.length + x.1)), (3, .sl (18 * 10000 + 26) (n + 1) 0 (out.length + 1))],
        [((18 * 10000 + 42), x.2.2.1, .rows 11 x.2.1), ((18 * 10000 + 26), n + 1, .rows 11 (OR ++ [qr])), ((18 * 10000 + 6), n, .rows 11 [qr])], x.2.2.2⟩)
      (fun x => x.1 ≤ q.protos.length ∧ x.2.1.take (td.length + x.1) = (td ++ q.protos.reverse.take x.1).map Fn.row ∧ td.length + x.1 ≤ x.2.1.length) (fun x => q.protos.length - x.1) (0, R, st, n + 1 + 1) ?_ ⟨Nat.zero_le _, by simpa using hR0, by simp only; omega⟩ ?_
    · exact Weak.wk (by simp -implicitDefEqProofs only [go_sem, Int.sub_zero])
    rintro ⟨k, R', st', m⟩ ⟨hk, hR', hRl'⟩ ih2
    simp only at hk hR' hRl' ih2 ⊢
    refine Run.unf scriptingref33_Each_l1_eq (Run.go 100 ?_)
    by_cases hlt : k < q.protos.length
    · have z0 : ((0 : Int) ≤ (q.protos.length : Int) - 1 - (k : Int)) = True := eq_true (by omega)
      have z1 : ((q.protos.length : Int) - 1 - (k : Int) < (q.protos.length : Int)) = True := eq_true (by omega)
      have z2 : ((q.protos.length : Int) - 1 - (k : Int)).toNat = q.protos.length - 1 - k := by omega
      obtain ⟨r, hr⟩ : ∃ r, q.protos[q.protos.length - 1 - k]? = some r := ⟨q.protos[q.protos.length - 1 - k]'(by omega), by simp⟩
      have hrr : q.protos.reverse[k]? = some r := by rw [List.getElem?_reverse hlt]; exact hr
      have hre : es[q.protos.length - 1 - k]? = some r.row := by rw [← hes, List.getElem?_map, hr]; rfl
      obtain ⟨f1, f2⟩ := fn_row11 r
      have hap2 : (td.length + k + 1 ≤ 137438953472) = True := eq_true (by omega)
      have z3 : td.length + k ≤ R'.length := hRl'
      have hnew : (td ++ q.protos.reverse.take (k + 1)).map Fn.row = R'.take (td.length + k) ++ [r.row] := by
        rw [hR', List.take_add_one, hrr]; simp
      have hmin : (R'.take (td.length + k)).length = td.length + k := by rw [List.length_take]; omega
      generalize r.row = rr at *
      simp -implicitDefEqProofs only [go_sem, z0, z1, z2, hpl, hrz, hre, g8, f1, f2, hap2, z3, Option.some.injEq, forall_eq']
      refine ⟨by omega, by omega, ?_⟩
      have z4 : (q.protos.length : Int) - 1 - ((k + 1 : Nat) : Int) = (q.protos.length : Int) - 1 - k - 1 := by omega
      refine ih2 _ (k + 1, R'.take (td.length + k) ++ [rr], m, m + 1) ⟨by simp only; omega, ?_, ?_⟩ (by simp only; omega) (Weak.wk (by simp -implicitDefEqProofs only [go_sem, z4, Nat.add_assoc]))
      · simp only [hnew]
        exact List.take_of_length_le (by simp only [List.length_append, hmin, List.length_singleton]; omega)
      · simp only [List.length_append, hmin, List.length_singleton]; omega
    · have e : k = q.protos.length := by omega
      subst e
      have z0 : ((0 : Int) ≤ (q.protos.length : Int) - 1 - (q.protos.length : Int)) = False := eq_false (by omega)
      simp -implicitDefEqProofs only [go_sem, z0]
      have hl2 : (td ++ q.protos.reverse).length = td.length + q.protos.length := by simp
      have hl3 : (out ++ [q]).length = out.length + 1 := by simp
      have ho3 : (out ++ [q]).map Fn.row = OR ++ [qr] := by rw [List.map_append, hOR, ← hqr]; rfl
      have hre : (td ++ q.protos.reverse).reverse = q.protos ++ td.reverse := by simp
      rw [show q.protos.reverse.take q.protos.length = q.protos.reverse from List.take_of_length_le (by simp)] at hR'
      refine ih _ (td ++ q.protos.reverse, R', out ++ [q], st', n + 1, m) ⟨by simp only [hl2]; exact hR', by simp only [hl2]; exact hRl', ?_⟩ ?_ (Weak.wk ?_)
      · simp only [hre, Fn.eachs_append]
        rw [← hO]; simp
      · simp only [hre, Fn.eachs_append, List.length_append, List.length_cons]; omega
      · simp only [hl2, hl3, ho3]
        simp -implicitDefEqProofs only [go_sem]
end Go.Proofs.YtmpkdkadnhindaaDoor
