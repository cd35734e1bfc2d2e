/-
  Functions without names and lines. No condition.
-/
import Derived.Test.YtlfnbfllnlkaiaaDoorFnCk
set_option linter.unusedVariables false
set_option linter.unusedSimpArgs false
set_option maxRecDepth 100000
set_option maxHeartbeats 0
namespace Go.Proofs.YtlfnbfllnlkaiaaDoor
open Go.Abs
attribute [local irreducible] CallS Run RndS

def Upv.bare (u : Upv) : Upv := ⟨[], u.loc, u.idx⟩
mutual
def Fn.strip : Fn → Fn
  | ⟨_, _, params, vararg, regs, code, _, consts, protos, ups, _⟩ => ⟨[], 0, params, vararg, regs, code, [], consts, Fn.strips protos, ups.map Upv.bare, []⟩
def Fn.strips : List Fn → List Fn
  | [] => []
  | p :: r => Fn.strip p :: Fn.strips r
end
theorem Fn.strips_map : ∀ l : List Fn, Fn.strips l = l.map Fn.strip
  | [] => rfl
  | p :: r => by rw [Fn.strips, Fn.strips_map r]; rfl
theorem Fn.strip_eq (p : Fn) : p.strip = ⟨[], 0, p.params, p.vararg, p.regs, p.code, [], p.consts, p.protos.map Fn.strip, p.ups.map Upv.bare, []⟩ := by
  obtain ⟨a, b, c, d, e, f, g, h, i, j, k⟩ := p
  rw [Fn.strip, Fn.strips_map]
theorem Fn.strip_row (p : Fn) : p.strip.row = [.str [], .int .i64 0, .int .i64 p.params, .bool p.vararg, .int .i64 p.regs, .isl (p.code.map Ins.row), .isl [], .isl (p.consts.map Kst.row), .isl ((p.protos.map Fn.strip).map Fn.row), .isl ((p.ups.map Upv.bare).map Upv.row), .isl []] := by
  rw [Fn.row_eq, Fn.strip_eq]; rfl

theorem take_map_next {α : Type} {f : α → List V} {l : List α} {k : Nat} {x : α} (h : l[k]? = some x) : (l.take (k + 1)).map f = (l.take k).map f ++ [f x] := by
  rw [List.take_add_one, h]; simp

theorem Fn.row_frz (d : Nat) (h : Heap) (p : Fn) : p.row.map (frz d h) = p.row := by
  obtain ⟨φ, e⟩ := frz_eq (d := d) (h := h)
  rw [e]; exact Fn.row_sub φ p
theorem fn_row11' (p : Fn) : p.row.length = 11 ∧ p.row.take 11 = p.row := ⟨p.row_len, List.take_of_length_le (by rw [p.row_len]; exact Nat.le_refl _)⟩

theorem rstrip_pure (p : Fn) (hp : p.bd) : Pure Tryd.prog 9 [.agg p.row] (.agg p.strip.row) := by
  induction p using Fn.ind with
  | h p ih' =>
    have hl := hp.self
    have l9 : (p.ups.map Upv.row).length = p.ups.length := List.length_map ..
    have l8 : (p.protos.map Fn.row).length = p.protos.length := List.length_map ..
    have z9 := eq_true (rowsz_of Upv.row 3 (fun _ => rfl) p.ups)
    have z8 := eq_true (rowsz_of Fn.row 11 Fn.row_len p.protos)
    have r9 : ∀ (k : Nat) x, p.ups[k]? = some x → (p.ups.map Upv.row)[k]? = some x.row := fun k x hk => by rw [List.getElem?_map, hk]; rfl
    have r8 : ∀ (k : Nat) x, p.protos[k]? = some x → (p.protos.map Fn.row)[k]? = some x.row := fun k x hk => by rw [List.getElem?_map, hk]; rfl
    have g5 := fun d h => frz_rows (d := d) (h := h) fun φ => map_sub_rows φ _ p.code fun x _ => Ins.row_sub φ x
    have g7 := fun d h => frz_rows (d := d) (h := h) fun φ => map_sub_rows φ _ p.consts fun x _ => Kst.row_sub φ x
    have g8 := fun d h => frz_rows (d := d) (h := h) fun φ => Fn.rows_sub φ (p.protos.map Fn.strip)
    have g9 := fun d h => frz_rows (d := d) (h := h) fun φ => map_sub_rows φ _ (p.ups.map Upv.bare) fun x _ => Upv.row_sub φ x
    have m8 : ((p.protos.map Fn.strip).map Fn.row).length = p.protos.length := by simp
    have m9 : ((p.ups.map Upv.bare).map Upv.row).length = p.ups.length := by simp
    have t9 : ∀ (k : Nat) x, p.ups[k]? = some x → ((p.ups.take (k + 1)).map fun u => (Upv.bare u).row) = ((p.ups.take k).map fun u => (Upv.bare u).row) ++ [[.str [], .bool x.loc, .int .i64 x.idx]] := fun k x hk => take_map_next hk
    have t8 : ∀ (k : Nat) x, p.protos[k]? = some x → ((p.protos.take (k + 1)).map fun u => (Fn.strip u).row) = ((p.protos.take k).map fun u => (Fn.strip u).row) ++ [x.strip.row] := fun k x hk => take_map_next hk
    have u9 : ∀ k, k ≤ p.ups.length → ((p.ups.take k).map fun u => (Upv.bare u).row).length = k := fun k hk => by simp; omega
    have u8 : ∀ k, k ≤ p.protos.length → ((p.protos.take k).map fun u => (Fn.strip u).row).length = k := fun k hk => by simp; omega
    have v9 : ((p.ups.take p.ups.length).map fun u => (Upv.bare u).row) = (p.ups.map Upv.bare).map Upv.row := by rw [List.take_length, List.map_map]; rfl
    have v8 : ((p.protos.take p.protos.length).map fun u => (Fn.strip u).row) = (p.protos.map Fn.strip).map Fn.row := by rw [List.take_length, List.map_map]; rfl
    have w9 : ((p.ups.take 0).map fun u => (Upv.bare u).row) = [] := rfl
    have w8 : ((p.protos.take 0).map fun u => (Fn.strip u).row) = [] := rfl
    rw [Fn.strip_row, Fn.row_eq p]
    generalize p.code.map Ins.row = e5 at *
    generalize p.lines.map lrow = e6 at *
    generalize p.consts.map Kst.row = e7 at *
    generalize p.protos.map Fn.row = e8 at *
    generalize p.ups.map Upv.row = e9 at *
    generalize p.vars.map Vr.row = e10 at *
    generalize (p.protos.map Fn.strip).map Fn.row = o8 at *
    generalize (p.ups.map Upv.bare).map Upv.row = o9 at *
    generalize hT9 : (fun k => (p.ups.take k).map fun u => (Upv.bare u).row) = T9
    have hT9' : ∀ k, ((p.ups.take k).map fun u => (Upv.bare u).row) = T9 k := fun k => by rw [← hT9]
    generalize hT8 : (fun k => (p.protos.take k).map fun u => (Fn.strip u).row) = T8
    have hT8' : ∀ k, ((p.protos.take k).map fun u => (Fn.strip u).row) = T8 k := fun k => by rw [← hT8]
    simp only [hT9', hT8'] at t9 t8 u9 u8 v9 v8 w9 w8
    refine Pure.of 1 (CallS.enter scriptingref33_Strip_ok (Nat.le_of_ble_eq_true rfl) (Run.go 100 ?_))
    simp -implicitDefEqProofs only [go_sem, initSl, l9, l8]
    have hu := hl.ups
    have hpp := hl.protos
    refine Run.roundsK (fun (x : Nat × Nat × Nat) => ⟨[(4, .int .i64 x.1), (3, .ptr (9 * 10000 + 3) 2 0 0), (2, .ptr (9 * 10000 + 2) 1 0 0), (1, .ptr (9 * 10000 + 1) 0 0 0)], [((9 * 10000 + 36), x.2.1, .rows 3 (T9 x.1)), ((9 * 10000 + 3), 2, .rows 11 [[.str [], .int .i64 0, .int .i64 p.params, .bool p.vararg, .int .i64 p.regs, .isl e5, .nils, .isl e7, .nils, .sl (9 * 10000 + 36) x.2.1 0 x.1, .nils]]), ((9 * 10000 + 2), 1, .rows 11 [[.str [], .int .i64 0, .int .i64 0, .bool false, .int .i64 0, .nils, .nils, .nils, .nils, .nils, .nils]]), ((9 * 10000 + 1), 0, .rows 11 [[.str p.name, .int .i64 p.line, .int .i64 p.params, .bool p.vararg, .int .i64 p.regs, .isl e5, .isl e6, .isl e7, .isl e8, .isl e9, .isl e10]])], x.2.2⟩)
      (fun x => x.1 ≤ p.ups.length) (fun x => p.ups.length - x.1) (0, 3, 4) ?_ (Nat.zero_le _) ?_
    · refine .trans (.fresh (9 * 10000 + 36) 3 _ _ _) (.turn id ⟨.refl _, .refl _, .refl _, .refl _, trivial⟩ (.at 0 rfl rfl (.of_eq (by simp only [w9])) (.at 1 rfl rfl (.row ⟨.refl _, .refl _, .refl _, .refl _, .refl _, .refl _, .refl _, .refl _, .refl _, .nils, .refl _, trivial⟩) (.at 2 rfl rfl (.refl _) (.at 3 rfl rfl (.refl _) trivial)))))
    rintro ⟨k, st, m⟩ hk ih
    simp only at hk ih ⊢
    refine Run.unf scriptingref33_Strip_l0_eq (Run.go 100 ?_)
    by_cases hlt : k < p.ups.length
    case pos =>
      have q0 : ((k : Int) < (p.ups.length : Int)) = True := eq_true (by omega)
      have q1 : ((0 : Int) ≤ (k : Int)) = True := eq_true (by omega)
      obtain ⟨x, hx⟩ : ∃ x, p.ups[k]? = some x := ⟨p.ups[k], by simp [hlt]⟩
      have hxr := r9 k x hx
      have htn := t9 k x hx
      have hTl := u9 k hk
      have hap : (k + 1 ≤ 137438953472) = True := eq_true (by omega)
      have hTt : (T9 k).take k = T9 k := List.take_of_length_le (by omega)
      have hzk : ((k + 1 : Nat) : Int) = (k : Int) + 1 := by omega
      simp -implicitDefEqProofs only [go_sem, q0, q1, l9, z9, hxr, Upv.row, hTl, hap, hTt, Option.some.injEq, forall_eq', List.append_nil]
      repeat refine And.intro (by omega) ?_
      exact ih _ (k + 1, m, m + 1) (by simp only; omega) (by simp only; omega) (Weak.wk (by simp -implicitDefEqProofs only [go_sem, hzk, htn]))
    have ek : k = p.ups.length := by omega
    subst ek
    clear ih
    simp -implicitDefEqProofs only [go_sem, l9, l8, Int.lt_irrefl]
    refine Run.roundsK (fun (x : Nat × Nat × Nat) => ⟨[(5, .int .i64 x.1), (3, .ptr (9 * 10000 + 3) 2 0 0), (2, .ptr (9 * 10000 + 2) 1 0 0), (1, .ptr (9 * 10000 + 1) 0 0 0)], [((9 * 10000 + 54), x.2.1, .rows 11 (T8 x.1)), ((9 * 10000 + 36), st, .rows 3 (T9 p.ups.length)), ((9 * 10000 + 3), 2, .rows 11 [[.str [], .int .i64 0, .int .i64 p.params, .bool p.vararg, .int .i64 p.regs, .isl e5, .nils, .isl e7, .sl (9 * 10000 + 54) x.2.1 0 x.1, .sl (9 * 10000 + 36) st 0 p.ups.length, .nils]]), ((9 * 10000 + 2), 1, .rows 11 [[.str [], .int .i64 0, .int .i64 0, .bool false, .int .i64 0, .nils, .nils, .nils, .nils, .nils, .nils]]), ((9 * 10000 + 1), 0, .rows 11 [[.str p.name, .int .i64 p.line, .int .i64 p.params, .bool p.vararg, .int .i64 p.regs, .isl e5, .isl e6, .isl e7, .isl e8, .isl e9, .isl e10]])], x.2.2⟩)
      (fun x => x.1 ≤ p.protos.length) (fun x => p.protos.length - x.1) (0, m, m + 1) ?_ (Nat.zero_le _) ?_
    · refine .trans (.fresh (9 * 10000 + 54) 11 _ _ _) (.turn id ⟨.refl _, .refl _, .refl _, .refl _, trivial⟩ (.at 0 rfl rfl (.of_eq (by simp only [w8])) (.at 1 rfl rfl (.refl _) (.at 2 rfl rfl (.row ⟨.refl _, .refl _, .refl _, .refl _, .refl _, .refl _, .refl _, .refl _, .nils, .refl _, .refl _, trivial⟩) (.at 3 rfl rfl (.refl _) (.at 4 rfl rfl (.refl _) trivial))))))
    rintro ⟨k, st2, m2⟩ hk2 ih
    simp only at hk2 ih ⊢
    refine Run.unf scriptingref33_Strip_l1_eq (Run.go 100 ?_)
    by_cases hlt2 : k < p.protos.length
    case pos =>
      have q0 : ((k : Int) < (p.protos.length : Int)) = True := eq_true (by omega)
      have q1 : ((0 : Int) ≤ (k : Int)) = True := eq_true (by omega)
      obtain ⟨x, hx⟩ : ∃ x, p.protos[k]? = some x := ⟨p.protos[k], by simp [hlt2]⟩
      have hxm := List.mem_of_getElem? hx
      have hxr := r8 k x hx
      have htn := t8 k x hx
      have hTl := u8 k hk2
      have hap : (k + 1 ≤ 137438953472) = True := eq_true (by omega)
      have hTt : (T8 k).take k = T8 k := List.take_of_length_le (by omega)
      have hzk : ((k + 1 : Nat) : Int) = (k : Int) + 1 := by omega
      have hih := ih' x hxm (hp.child hxm)
      obtain ⟨f1, f2⟩ := fn_row11' x
      have hsl := Fn.row_len x.strip
      have sx := Fn.row_sub lost x
      generalize x.row = xr at *
      generalize x.strip.row = yr at *
      simp -implicitDefEqProofs only [go_sem, q0, q1, l8, z8, hxr, f1, f2, Option.some.injEq, forall_eq', List.append_nil]
      refine ⟨?_, ?_⟩
      all_goals
        repeat refine And.intro (by omega) ?_
        refine CallS.pureF hih (by simp -implicitDefEqProofs only [go_sem, sx]) ?_
        simp -implicitDefEqProofs only [go_sem, hsl, hTl, hap, hTt]
        refine ⟨by omega, ?_⟩
        exact ih _ (k + 1, m2, m2 + 1) (by simp only; omega) (by simp only; omega) (Weak.wk (by simp -implicitDefEqProofs only [go_sem, hzk, htn]))
    have ek2 : k = p.protos.length := by omega
    subst ek2
    have n9 : (T9 p.ups.length).length = p.ups.length := u9 _ (Nat.le_refl _)
    have n8 : (T8 p.protos.length).length = p.protos.length := u8 _ (Nat.le_refl _)
    have a9 : (T9 p.ups.length).take p.ups.length = o9 := by rw [List.take_of_length_le (by omega), v9]
    have a8 : (T8 p.protos.length).take p.protos.length = o8 := by rw [List.take_of_length_le (by omega), v8]
    simp -implicitDefEqProofs only [go_sem, l8, Int.lt_irrefl, n9, n8, a9, a8, g5, g7, g8, g9]
end Go.Proofs.YtlfnbfllnlkaiaaDoor
