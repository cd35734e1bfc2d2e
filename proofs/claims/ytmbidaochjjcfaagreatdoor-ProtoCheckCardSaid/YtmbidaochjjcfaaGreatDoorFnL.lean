/-
  Functions that are more than is tried. No condition.
-/
import Derived.Test.YtmbidaochjjcfaaGreatDoorFnR
set_option linter.unusedVariables false
set_option linter.unusedSimpArgs false
set_option maxRecDepth 100000
set_option maxHeartbeats 0
namespace Go.Proofs.YtmbidaochjjcfaaGreatDoor
open Go.Abs
attribute [local irreducible] CallS Run RndS

def parts (q : Fn) : Nat := q.code.length + q.lines.length + q.consts.length + q.ups.length + q.vars.length
/-- At most 40 functions, 400 parts of each. -/
structure SmallP (p : Fn) : Prop where
  count : p.each.length ≤ 40
  parts : ∀ q ∈ p.each, parts q ≤ 400 ∧ q.protos.length ≤ 40
theorem SmallP.bd {p : Fn} (h : SmallP p) : p.bd := fun q hq => by
  have h1 := (h.parts q hq).1
  have h2 := (h.parts q hq).2
  unfold Go.Proofs.YtmbidaochjjcfaaGreatDoor.parts at h1
  exact ⟨by omega, by omega, by omega, by omega, by omega, by omega⟩
noncomputable def largeB (p : Fn) : Bool := by
  classical exact !decide (SmallP p)
theorem largeB_yes {p : Fn} (h : ¬ SmallP p) : largeB p = true := by simp [largeB, h]
theorem largeB_no {p : Fn} (h : SmallP p) : largeB p = false := by simp [largeB, h]
theorem small_of {p : Fn} (h : largeB p = false) : SmallP p := by simpa [largeB] using h

theorem large_call (p : Fn) (hw : p.wf) : Pure Tryz.prog 4 [.agg p.row] (.bool (largeB p)) := by
  obtain ⟨h1, h2⟩ := fn_row11 p
  have hB : reachBytes = 140737488351232 := rfl
  refine Pure.of 0 (CallS.enter scriptinglaw33_Large_ok (Nat.le_of_ble_eq_true rfl) (Run.go 100 ?_))
  have hpr : [p.row] = [p].map Fn.row := rfl
  generalize hpr' : p.row = pr at *
  simp -implicitDefEqProofs only [go_sem, initSl, h1, h2]
  refine Run.roundsK (fun (x : Nat × List Fn × Nat × Nat) => ⟨[(4, .int .i64 x.1), (3, .sl (4 * 10000 + 47) x.2.2.1 0 x.2.1.length)],
      [((4 * 10000 + 47), x.2.2.1, .rows 11 (x.2.1.map Fn.row))], x.2.2.2⟩)
    (fun x => x.1 ≤ x.2.1.length ∧ x.2.1.length ≤ 40 ∧ x.1 + (Fn.eachs (x.2.1.drop x.1)).length = p.each.length ∧ (∀ q ∈ p.each, q ∈ x.2.1.take x.1 ∨ q ∈ Fn.eachs (x.2.1.drop x.1)) ∧ (∀ q ∈ x.2.1, q ∈ p.each) ∧ ∀ q ∈ x.2.1.take x.1, parts q ≤ 400 ∧ q.protos.length ≤ 40)
    (fun x => 41 - x.1) (0, [p], 1, 2) ?_ ⟨Nat.zero_le _, by simp, by simp [Fn.eachs], by simp [Fn.eachs], by simp [Fn.self_mem], by simp⟩ ?_
  · exact .turn (fun b => if b = (4 * 10000 + 7) then (4 * 10000 + 47) else b) ⟨.refl _, .sl, trivial⟩ (.at 0 rfl rfl (.of_eq (by rw [hpr])) trivial)
  rintro ⟨k, l, st, n⟩ ⟨hk, hl, hcnt, hcov, hin, hok⟩ ih
  simp only at hk hl hcnt hcov hin hok ih ⊢
  have hll : (l.map Fn.row).length = l.length := List.length_map ..
  refine Run.unf scriptinglaw33_Large_l0_eq (Run.go 100 ?_)
  by_cases hlt : k < l.length
  · have q0 : ((k : Int) < (l.length : Int)) = True := eq_true (by omega)
    have q1 : ((0 : Int) ≤ (k : Int)) = True := eq_true (by omega)
    obtain ⟨q, hq⟩ : ∃ q, l[k]? = some q := ⟨l[k], by simp [hlt]⟩
    have hqm : q ∈ p.each := hin q (List.mem_of_getElem? hq)
    have hqr : (l.map Fn.row)[k]? = some q.row := by rw [List.getElem?_map, hq]; rfl
    obtain ⟨w1, w2, w3, w4, w5, w6, w7, w8⟩ := (Fn.wf_iff q).1 (Fn.wf_each p hw q hqm)
    rw [hB] at w1 w2 w3 w4 w5 w6 w7
    obtain ⟨g1, g2⟩ := fn_row11 q
    have g5 : q.row[5]? = some (.isl (q.code.map Ins.row)) := by rw [q.row_eq]; rfl
    have g6 : q.row[6]? = some (.isl (q.lines.map lrow)) := by rw [q.row_eq]; rfl
    have g7 : q.row[7]? = some (.isl (q.consts.map Kst.row)) := by rw [q.row_eq]; rfl
    have g8 : q.row[8]? = some (.isl (q.protos.map Fn.row)) := by rw [q.row_eq]; rfl
    have g9 : q.row[9]? = some (.isl (q.ups.map Upv.row)) := by rw [q.row_eq]; rfl
    have g10 : q.row[10]? = some (.isl (q.vars.map Vr.row)) := by rw [q.row_eq]; rfl
    have e5 : (q.code.map Ins.row).length = q.code.length := List.length_map ..
    have e6 : (q.lines.map lrow).length = q.lines.length := List.length_map ..
    have e7 : (q.consts.map Kst.row).length = q.consts.length := List.length_map ..
    have e8 : (q.protos.map Fn.row).length = q.protos.length := List.length_map ..
    have e9 : (q.ups.map Upv.row).length = q.ups.length := List.length_map ..
    have e10 : (q.vars.map Vr.row).length = q.vars.length := List.length_map ..
    have hrz := eq_true (rowsz_of Fn.row 11 Fn.row_len q.protos)
    have hltk : (l.map Fn.row).take l.length = l.map Fn.row := List.take_of_length_le (by omega)
    have hnl : (l ++ q.protos).map Fn.row = l.map Fn.row ++ q.protos.map Fn.row := List.map_append
    have hnn : (l ++ q.protos).length = l.length + q.protos.length := List.length_append
    have hdrop : l.drop k = q :: l.drop (k + 1) := by
      obtain ⟨hk', e⟩ := List.getElem_of_getElem? hq
      rw [← e, List.getElem_cons_drop]
    have htake : l.take (k + 1) = l.take k ++ [q] := by rw [List.take_add_one, hq]; rfl
    generalize q.row = qr at *
    generalize q.code.map Ins.row = c5 at *
    generalize q.lines.map lrow = c6 at *
    generalize q.consts.map Kst.row = c7 at *
    generalize q.protos.map Fn.row = c8 at *
    generalize q.ups.map Upv.row = c9 at *
    generalize q.vars.map Vr.row = c10 at *
    generalize hLR : l.map Fn.row = LR at *
    by_cases b1 : 400 < parts q
    · have hbig : ¬ SmallP p := fun h => absurd (h.parts q hqm).1 (by omega)
      have z1 : ((400 : Int) < (q.code.length : Int) + q.lines.length + q.consts.length + q.ups.length + q.vars.length) = True := eq_true (by unfold parts at b1; omega)
      simp -implicitDefEqProofs only [go_sem, q0, q1, hll, hqr, g1, g2, g5, g6, g7, g8, g9, g10, e5, e6, e7, e8, e9, e10, z1, largeB_yes hbig, Option.some.injEq, forall_eq', List.append_nil]
      refine ⟨hlt, ?_, ?_, ?_, ?_⟩ <;> omega
    have z1 : ((400 : Int) < (q.code.length : Int) + q.lines.length + q.consts.length + q.ups.length + q.vars.length) = False := eq_false (by unfold parts at b1; omega)
    by_cases b2 : 40 < q.protos.length
    · have hbig : ¬ SmallP p := fun h => absurd (h.parts q hqm).2 (by omega)
      have z2 : ((40 : Int) < (q.protos.length : Int)) = True := eq_true (by omega)
      simp -implicitDefEqProofs only [go_sem, q0, q1, hll, hqr, g1, g2, g5, g6, g7, g8, g9, g10, e5, e6, e7, e8, e9, e10, z1, z2, largeB_yes hbig, Option.some.injEq, forall_eq', List.append_nil]
      refine ⟨hlt, ?_, ?_, ?_, ?_⟩ <;> omega
    have z2 : ((40 : Int) < (q.protos.length : Int)) = False := eq_false (by omega)
    have hap : (l.length + q.protos.length ≤ 137438953472) = True := eq_true (by omega)
    have hcnt' : (k + 1) + (Fn.eachs (l.drop (k + 1) ++ q.protos)).length = p.each.length := by
      rw [hdrop, Fn.eachs, Fn.each_eq] at hcnt
      simp only [List.cons_append, List.length_cons, List.length_append, Fn.eachs_append] at hcnt ⊢
      omega
    by_cases b3 : 40 < l.length + q.protos.length
    · have hbig : ¬ SmallP p := fun h => by
        have h3 := Fn.eachs_len (l.drop (k + 1) ++ q.protos)
        have h4 := h.count
        simp only [List.length_append, List.length_drop] at h3
        omega
      have z3 : ((40 : Int) < ((l.length + q.protos.length : Nat) : Int)) = True := eq_true (by omega)
      simp -implicitDefEqProofs only [go_sem, q0, q1, hll, hqr, g1, g2, g5, g6, g7, g8, g9, g10, e5, e6, e7, e8, e9, e10, hrz, hltk, hap, z1, z2, Option.some.injEq, forall_eq', List.append_nil, z3, largeB_yes hbig]
      refine ⟨hlt, ?_, ?_, ?_, ?_⟩ <;> omega
    · have z3 : ((40 : Int) < ((l.length + q.protos.length : Nat) : Int)) = False := eq_false (by omega)
      simp -implicitDefEqProofs only [go_sem, q0, q1, hll, hqr, g1, g2, g5, g6, g7, g8, g9, g10, e5, e6, e7, e8, e9, e10, hrz, hltk, hap, z1, z2, Option.some.injEq, forall_eq', List.append_nil, z3]
      repeat refine And.intro (by omega) ?_
      have hd2 : (l ++ q.protos).drop (k + 1) = l.drop (k + 1) ++ q.protos := List.drop_append_of_le_length (by omega)
      have ht2 : (l ++ q.protos).take (k + 1) = l.take k ++ [q] := by rw [List.take_append_of_le_length (by omega), htake]
      have hzk : ((k + 1 : Nat) : Int) = (k : Int) + 1 := by omega
      refine ih _ (k + 1, l ++ q.protos, n + 1, n + 2) ⟨by simp only [hnn]; omega, by simp only [hnn]; omega, by simp only [hd2]; exact hcnt', ?_, ?_, ?_⟩ (by simp only; omega) (Weak.wk (by simp only [hnn, hnl]; simp -implicitDefEqProofs only [go_sem, hzk]))
      · intro x hx
        simp only [hd2, ht2]
        rcases hcov x hx with h | h
        · exact .inl (List.mem_append.2 (.inl h))
        · rw [hdrop, Fn.eachs] at h
          rcases List.mem_append.1 h with h | h
          · rw [Fn.each_eq] at h
            rcases List.mem_cons.1 h with rfl | h
            · exact .inl (by simp)
            · exact .inr (by rw [Fn.eachs_append]; exact List.mem_append.2 (.inr h))
          · exact .inr (by rw [Fn.eachs_append]; exact List.mem_append.2 (.inl h))
      · intro x hx
        rcases List.mem_append.1 hx with h | h
        · exact hin x h
        · exact Fn.child_mem hqm h
      · intro x hx
        simp only [ht2] at hx
        rcases List.mem_append.1 hx with h | h
        · exact hok x h
        · rw [List.mem_singleton.1 h]; exact ⟨by omega, by omega⟩
  · have e : k = l.length := by omega
    subst e
    rw [List.drop_length, Fn.eachs] at hcnt
    have hsm : SmallP p := ⟨by simp at hcnt; omega, fun q hq => by
      rcases hcov q hq with h | h
      · exact hok q h
      · rw [List.drop_length, Fn.eachs] at h; cases h⟩
    simp -implicitDefEqProofs only [go_sem, hll, Int.lt_irrefl, largeB_no hsm]
end Go.Proofs.YtmbidaochjjcfaaGreatDoor
