/-
  Copies of functions. No condition.
-/
import Derived.Test.YtmpkdkadnhindaaDoorFn
import Derived.Test.YtmpkdkadnhindaaDoorRnd
import Derived.Test.YtmpkdkadnhindaaDoorCode
set_option linter.unusedVariables false
set_option linter.unusedSimpArgs false
set_option maxRecDepth 100000
set_option maxHeartbeats 0
namespace Go.Proofs.YtmpkdkadnhindaaDoor
open Go.Abs
attribute [local irreducible] CallS Run

theorem frz_rows {d : Nat} {h : Heap} {es : List (List V)} (hs : ∀ φ, es.map (fun r => r.map (V.sub φ)) = es) : es.map (fun r => r.map (frz d h)) = es := by
  obtain ⟨φ, e⟩ := frz_eq (d := d) (h := h)
  rw [e]; exact hs φ

theorem clone_ins (es : List (List V)) (hz : rowsz es 5) (hl : es.length ≤ 3518437208883) (hs : ∀ φ, es.map (fun r => r.map (V.sub φ)) = es) : Pure Tryd.prog 38 [.isl es] (.isl es) := by
  have hz' : rowsz es 5 = True := eq_true hz
  have hl' := eq_true hl
  refine Pure.of 1 (CallS.enter slices_Clone_api_Instr_api_Instr_ok (Nat.le_of_ble_eq_true rfl) (Run.go 100 ?_))
  simp -implicitDefEqProofs only [go_sem, initSl, hz', hl']
  exact ⟨frz_rows hs, fun e => e.symm⟩
theorem clone_int (es : List (List V)) (hz : rowsz es 1) (hl : es.length ≤ 17592186044416) (hs : ∀ φ, es.map (fun r => r.map (V.sub φ)) = es) : Pure Tryd.prog 39 [.isl es] (.isl es) := by
  have hz' : rowsz es 1 = True := eq_true hz
  have hl' := eq_true hl
  refine Pure.of 1 (CallS.enter slices_Clone_int_int_ok (Nat.le_of_ble_eq_true rfl) (Run.go 100 ?_))
  simp -implicitDefEqProofs only [go_sem, initSl, hz', hl']
  exact ⟨frz_rows hs, fun e => e.symm⟩
theorem clone_kst (es : List (List V)) (hz : rowsz es 5) (hl : es.length ≤ 2932031007402) (hs : ∀ φ, es.map (fun r => r.map (V.sub φ)) = es) : Pure Tryd.prog 40 [.isl es] (.isl es) := by
  have hz' : rowsz es 5 = True := eq_true hz
  have hl' := eq_true hl
  refine Pure.of 1 (CallS.enter slices_Clone_api_Value_api_Value_ok (Nat.le_of_ble_eq_true rfl) (Run.go 100 ?_))
  simp -implicitDefEqProofs only [go_sem, initSl, hz', hl']
  exact ⟨frz_rows hs, fun e => e.symm⟩
theorem clone_up (es : List (List V)) (hz : rowsz es 3) (hl : es.length ≤ 4398046511104) (hs : ∀ φ, es.map (fun r => r.map (V.sub φ)) = es) : Pure Tryd.prog 41 [.isl es] (.isl es) := by
  have hz' : rowsz es 3 = True := eq_true hz
  have hl' := eq_true hl
  refine Pure.of 1 (CallS.enter slices_Clone_api_Up_api_Up_ok (Nat.le_of_ble_eq_true rfl) (Run.go 100 ?_))
  simp -implicitDefEqProofs only [go_sem, initSl, hz', hl']
  exact ⟨frz_rows hs, fun e => e.symm⟩
theorem clone_vr (es : List (List V)) (hz : rowsz es 5) (hl : es.length ≤ 2932031007402) (hs : ∀ φ, es.map (fun r => r.map (V.sub φ)) = es) : Pure Tryd.prog 42 [.isl es] (.isl es) := by
  have hz' : rowsz es 5 = True := eq_true hz
  have hl' := eq_true hl
  refine Pure.of 1 (CallS.enter slices_Clone_api_Var_api_Var_ok (Nat.le_of_ble_eq_true rfl) (Run.go 100 ?_))
  simp -implicitDefEqProofs only [go_sem, initSl, hz', hl']
  exact ⟨frz_rows hs, fun e => e.symm⟩

theorem rowsz_of {α : Type} (f : α → List V) (sz : Nat) (h : ∀ x, (f x).length = sz) (l : List α) : rowsz (l.map f) sz := fun r hr => by
  obtain ⟨y, _, rfl⟩ := List.mem_map.1 hr
  exact h y

theorem copied_pure (p : Fn) (hw : p.bd) : Pure Tryd.prog 29 [.agg p.row] (.agg p.row) := by
  induction p using Fn.ind with
  | h p ih' =>
    have hl := hw.self
    have c1 := clone_ins (p.code.map Ins.row) (rowsz_of _ 5 (fun _ => rfl) _) (by rw [List.length_map]; exact Nat.le_trans hl.code (by decide)) (fun φ => map_sub_rows φ _ _ fun x _ => Ins.row_sub φ x)
    have c2 := clone_int (p.lines.map lrow) (rowsz_of _ 1 (fun _ => rfl) _) (by rw [List.length_map]; exact Nat.le_trans hl.lines (by decide)) (fun φ => map_sub_rows φ _ _ fun x _ => lrow_sub φ x)
    have c3 := clone_kst (p.consts.map Kst.row) (rowsz_of _ 5 (fun _ => rfl) _) (by rw [List.length_map]; exact Nat.le_trans hl.consts (by decide)) (fun φ => map_sub_rows φ _ _ fun x _ => Kst.row_sub φ x)
    have c4 := clone_up (p.ups.map Upv.row) (rowsz_of _ 3 (fun _ => rfl) _) (by rw [List.length_map]; exact Nat.le_trans hl.ups (by decide)) (fun φ => map_sub_rows φ _ _ fun x _ => Upv.row_sub φ x)
    have c5 := clone_vr (p.vars.map Vr.row) (rowsz_of _ 5 (fun _ => rfl) _) (by rw [List.length_map]; exact Nat.le_trans hl.vars (by decide)) (fun φ => map_sub_rows φ _ _ fun x _ => Vr.row_sub φ x)
    have g1 := fun φ => map_sub_rows φ _ p.code fun x _ => Ins.row_sub φ x
    have s1 := g1 lost
    have f1 := fun d h => frz_rows (d := d) (h := h) g1
    have g2 := fun φ => map_sub_rows φ _ p.lines fun x _ => lrow_sub φ x
    have s2 := g2 lost
    have f2 := fun d h => frz_rows (d := d) (h := h) g2
    have g3 := fun φ => map_sub_rows φ _ p.consts fun x _ => Kst.row_sub φ x
    have s3 := g3 lost
    have f3 := fun d h => frz_rows (d := d) (h := h) g3
    have g4 := fun φ => map_sub_rows φ _ p.ups fun x _ => Upv.row_sub φ x
    have s4 := g4 lost
    have f4 := fun d h => frz_rows (d := d) (h := h) g4
    have g5 := fun φ => map_sub_rows φ _ p.vars fun x _ => Vr.row_sub φ x
    have s5 := g5 lost
    have f5 := fun d h => frz_rows (d := d) (h := h) g5
    refine Pure.of 1 (CallS.enter proto_copied_ok (Nat.le_of_ble_eq_true rfl) ?_)
    rw [Fn.row_eq p]
    generalize p.code.map Ins.row = e1 at *
    generalize p.lines.map lrow = e2 at *
    generalize p.consts.map Kst.row = e3 at *
    generalize p.ups.map Upv.row = e4 at *
    generalize p.vars.map Vr.row = e5 at *
    refine Run.go 100 ?_
    simp -implicitDefEqProofs only [go_sem, initSl]
    refine pcallK.pureF c1 (by simp -implicitDefEqProofs only [go_sem, s1]) ?_
    simp -implicitDefEqProofs only [go_sem]
    refine pcallK.pureF c2 (by simp -implicitDefEqProofs only [go_sem, s2]) ?_
    simp -implicitDefEqProofs only [go_sem]
    refine pcallK.pureF c3 (by simp -implicitDefEqProofs only [go_sem, s3]) ?_
    simp -implicitDefEqProofs only [go_sem]
    refine pcallK.pureF c4 (by simp -implicitDefEqProofs only [go_sem, s4]) ?_
    simp -implicitDefEqProofs only [go_sem]
    refine pcallK.pureF c5 (by simp -implicitDefEqProofs only [go_sem, s5]) ?_
    simp -implicitDefEqProofs only [go_sem]
    have hlen : (p.protos.map Fn.row).length = p.protos.length := List.length_map ..
    have hpl := hl.protos
    have hrz := eq_true (rowsz_of Fn.row 11 Fn.row_len p.protos)
    have hrow : ∀ (k : Nat) q, p.protos[k]? = some q → (p.protos.map Fn.row)[k]? = some q.row := fun k q hk => by rw [List.getElem?_map, hk]; rfl
    have hsub := fun φ => Fn.rows_sub φ p.protos
    have htk : ∀ (k : Nat) q, p.protos[k]? = some q → (p.protos.take (k + 1)).map Fn.row = (p.protos.take k).map Fn.row ++ [q.row] := fun k q hk => by
      rw [List.take_add_one, hk]; simp
    have htl : ∀ k, ((p.protos.take k).map Fn.row).length = min k p.protos.length := fun k => by simp
    have hta : (p.protos.take p.protos.length).map Fn.row = p.protos.map Fn.row := by rw [List.take_length]
    have ht0 : (p.protos.take 0).map Fn.row = [] := rfl
    generalize hP : p.protos.map Fn.row = es at *
    generalize hT : (fun k => (p.protos.take k).map Fn.row) = T
    have hT' : ∀ k, (p.protos.take k).map Fn.row = T k := fun k => by rw [← hT]
    simp only [hT'] at htk htl hta ht0
    refine Run.roundsK (fun (x : Nat × Nat × Nat) => ⟨[(29, .int .i64 x.1), (28, .int .i64 p.protos.length), (27, .isl es), (3, .sl (29 * 10000 + 37) x.2.1 0 x.1), (2, .ptr (29 * 10000 + 2) 1 0 0), (1, .ptr (29 * 10000 + 1) 0 0 0)],
        [((29 * 10000 + 37), x.2.1, .rows 11 (T x.1)), ((29 * 10000 + 1), 0, .rows 11 [[.str p.name, .int .i64 p.line, .int .i64 p.params, .bool p.vararg, .int .i64 p.regs, .isl e1, .isl e2, .isl e3, .isl es, .isl e4, .isl e5]]), ((29 * 10000 + 2), 1, .rows 11 [[.str [], .int .i64 0, .int .i64 0, .bool false, .int .i64 0, .nils, .nils, .nils, .nils, .nils, .nils]])], x.2.2⟩)
      (fun x => x.1 ≤ p.protos.length) (fun x => p.protos.length - x.1) (0, 2, 3) ?_ (Nat.zero_le _) ?_
    · refine .trans (.fresh (29 * 10000 + 37) 11 _ _ _) (.turn id ⟨.refl _, .refl _, .refl _, .nils, .refl _, .refl _, trivial⟩ (.at 0 rfl rfl (.of_eq (by simp only [ht0])) (.at 1 rfl rfl (.refl _) (.at 2 rfl rfl (.refl _) trivial))))
    rintro ⟨k, st, m⟩ hk ih
    simp only at hk ih ⊢
    refine Run.unf proto_copied_l0_eq (Run.go 100 ?_)
    by_cases hlt : k < p.protos.length
    · have q0 : ((k : Int) < (p.protos.length : Int)) = True := eq_true (by omega)
      have q1 : ((0 : Int) ≤ (k : Int)) = True := eq_true (by omega)
      obtain ⟨q, hq⟩ : ∃ q, p.protos[k]? = some q := ⟨p.protos[k], by simp [hlt]⟩
      have hqm : q ∈ p.protos := List.mem_of_getElem? hq
      have hqr := hrow k q hq
      have hql := q.row_len
      have hqs := Fn.row_sub lost q
      have hih := ih' q hqm (hw.child hqm)
      have hTl : (T k).length = k := by rw [htl]; omega
      have hTk := htk k q hq
      have hzk : ((k : Int) + 1) = ((k + 1 : Nat) : Int) := by omega
      have hap : (k + 1 ≤ 733007751850) = True := eq_true (by omega)
      have hTt : (T k).take k = T k := List.take_of_length_le (by omega)
      have htq : q.row.take 11 = q.row := List.take_of_length_le (by omega)
      generalize q.row = qr at *
      simp -implicitDefEqProofs only [go_sem, q0, q1, hlen, hrz, hqr, Option.some.injEq, forall_eq', hql, htq, List.append_nil]
      refine ⟨hlt, ?_⟩
      refine CallS.pureF hih (by simp -implicitDefEqProofs only [go_sem, hqs]) ?_
      simp -implicitDefEqProofs only [go_sem, hql, hTl, hap, hTt, htq]
      refine ⟨by omega, ?_⟩
      refine ih _ (k + 1, m + 1, m + 2) (by simp only; omega) (by simp only; omega) (Weak.wk ?_)
      simp only [← hzk, hTk]
      simp -implicitDefEqProofs only [go_sem]
    · have e : k = p.protos.length := by omega
      subst e
      simp -implicitDefEqProofs only [go_sem, Int.lt_irrefl]
      have hTl : (T p.protos.length).length = p.protos.length := by rw [htl]; omega
      have e2 : Nat.ble p.protos.length (T p.protos.length).length = true := Nat.ble_eq_true_of_le (by omega)
      have e3 : (T p.protos.length).take p.protos.length = es := by rw [List.take_of_length_le (by omega), hta]
      have e4 := fun d h => frz_rows (d := d) (h := h) hsub
      simp only [f1, f2, f3, f4, f5, e3, if_pos (Nat.le_of_ble_eq_true e2), e4, and_self]
end Go.Proofs.YtmpkdkadnhindaaDoor
