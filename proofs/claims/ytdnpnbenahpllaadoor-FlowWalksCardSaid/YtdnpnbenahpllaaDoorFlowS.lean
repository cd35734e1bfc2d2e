/-
  What the reference's 'Next' and 'Loops' answer. No condition.
-/
import Derived.Test.YtdnpnbenahpllaaDoorFlowL
import Derived.Test.YtdnpnbenahpllaaDoorFlowR
set_option linter.unusedVariables false
set_option linter.unusedSimpArgs false
set_option maxRecDepth 100000
set_option maxHeartbeats 0
namespace Go.Proofs.YtdnpnbenahpllaaDoor
open Go.Abs
attribute [local irreducible] CallS Run
-- EV: Ins.v, Ins.row

theorem rfalls_pure (i : Ins) : Pure Tryd.prog 41 [i.v] (.bool (falls i.op)) := by
  have hj : falls i.op = decide (i.op ≠ 14 ∧ i.op ≠ 17 ∧ i.op ≠ 18) := rfl
  rw [hj]
  refine Pure.of 0 (CallS.enter scriptingref32_Falls_ok (Nat.le_of_ble_eq_true rfl) ?_)
  refine Run.go 100 ?_
  simp -implicitDefEqProofs only [go_sem, Ins.v, Ins.row, initSl]
  repeat' (first | refine And.intro ?_ ?_ | refine fun h => ?_)
  all_goals simp_all
theorem normZ_insZ (l : List Int) (r : Int) (h : Asc l) : insZ l r = normZ (l ++ [r]) := by rw [← insZ_normZ, normZ_asc h]
theorem subZ (l : List Int) : (l.map zrw).map (fun r => r.map (V.sub lost)) = l.map zrw := frzZ 0 [] l
theorem asc_tgtL (code : List Ins) (i : Ins) : Asc (tgtL code i) := by unfold tgtL; split; exact asc_one _; exact asc_nil

theorem CallS.give {P : Program} {f : FuncId} {b st m n : Nat} {rs : List (List V)} {v : V} {h h' : Heap} {k : Res} (i : Nat) (hi : h[i]? = some (b, st, .rows 1 rs)) (hm : m = rs.length) (hh : FrzH b st rs h h')
    (hc : CallS P f [.isl rs, v] h' n k) : CallS P f [.sl b st 0 m, v] h n k :=
  CallS.pre (xs' := [.isl rs, v]) (Wk.freeze (sl' := [(1, v), (0, .isl rs)]) (List.mem_of_getElem? hi) ⟨.of (.refl _), Frz.all hm, trivial⟩ hh) rfl hc

theorem rnext_pure (code : List Ins) (at_ : Int) (hc : code.length ≤ 100000) (c0 c1 c2 c3 c4 c6 c7 c8 c9 c10 : V) :
    Pure Tryd.prog 25 [.agg [c0, c1, c2, c3, c4, .isl (code.map Ins.row), c6, c7, c8, c9, c10], .int .i64 at_] (.isl ((nextL code at_).map zrw)) := by
  refine Pure.of 1 (CallS.enter scriptingref35_Next_ok (Nat.le_of_ble_eq_true rfl) ?_)
  have hrow : ∀ (k : Nat) (x : Ins), code[k]? = some x → (code.map Ins.row)[k]? = some x.row := fun k x h => by rw [List.getElem?_map, h]; rfl
  have hlen : (code.map Ins.row).length = code.length := List.length_map ..
  have hsz : rowsz (code.map Ins.row) 5 = True := eq_true fun r hr => by obtain ⟨y, _, rfl⟩ := List.mem_map.1 hr; rfl
  generalize code.map Ins.row = es at *
  refine Run.go 100 ?_
  by_cases h1 : at_ < 0
  · have e : nextL code at_ = [] := by rw [nextL, if_pos (.inl h1)]
    rw [e]
    simp -implicitDefEqProofs only [go_sem, Ins.v, Ins.row, initSl, h1, List.map_nil]
  by_cases h2 : (code.length : Int) ≤ at_
  · have e : nextL code at_ = [] := by rw [nextL, if_pos (.inr h2)]
    rw [e]
    simp -implicitDefEqProofs only [go_sem, Ins.v, Ins.row, initSl, h1, h2, hlen, List.map_nil]
  obtain ⟨i, hi⟩ : ∃ i, code[at_.toNat]? = some i := ⟨code[at_.toNat]'(by omega), by simp⟩
  have hr := hrow _ _ hi
  have k0 : ((0 : Int) ≤ at_) = True := eq_true (by omega)
  have k1 : (at_ < (code.length : Int)) = True := eq_true (by omega)
  have k2 : (at_.toNat < code.length) = True := eq_true (by omega)
  have e : nextL code at_ = normZ (tgtL code i ++ fallL code at_ i) := by rw [nextL, if_neg (by omega), hi]
  rw [e]
  clear e
  have hput := put_pure (tgtL code i) (asc_tgtL code i) (by unfold tgtL; split <;> simp) (at_ + 1)
  rw [normZ_insZ _ _ (asc_tgtL code i)] at hput
  have tp := rtarget_pure i
  have fp := rfalls_pure i
  simp -implicitDefEqProofs only [go_sem, Ins.v, Ins.row, initSl, h1, h2, hlen, hr, hsz, k0, k1, k2, Option.some.injEq, forall_eq']
  refine CallS.pureF tp (by simp -implicitDefEqProofs only [go_sem, Ins.v, Ins.row]) ?_
  by_cases hT : isJump i.op = true ∧ 0 ≤ i.b ∧ i.b < code.length
  · have t1 := eq_true hT.2.1
    have t2 := eq_true hT.2.2
    rw [show tgtL code i = [i.b] from if_pos hT] at hput ⊢
    rw [hT.1]
    simp -implicitDefEqProofs only [go_sem, Ins.v, Ins.row, t1, t2, hlen, hr, hsz, k0, k1, k2, Option.some.injEq, forall_eq']
    refine CallS.pureF fp (by simp -implicitDefEqProofs only [go_sem, Ins.v, Ins.row]) ?_
    by_cases hF : falls i.op = true ∧ at_ + 1 < code.length
    · have f1 := eq_true hF.2
      rw [show fallL code at_ i = [at_ + 1] from if_pos hF, hF.1]
      simp -implicitDefEqProofs only [go_sem, Ins.v, Ins.row, f1, hlen]
      refine ⟨by omega, by omega, ?_⟩
      refine CallS.give (h' := []) 0 rfl rfl trivial ?_
      refine CallS.pureF hput (by simp -implicitDefEqProofs only [go_sem, Ins.v, Ins.row]) ?_
      simp -implicitDefEqProofs only [go_sem, Ins.v, Ins.row]
      exact frzZ _ _ _
    · rw [show fallL code at_ i = [] from if_neg hF]
      cases hf : falls i.op with
      | false => simp -implicitDefEqProofs only [go_sem, Ins.v, Ins.row, normZ_one, normZ_nil, List.append_nil, List.map_cons, List.map_nil, zrw]
      | true =>
        have f1 := eq_false (fun h => hF ⟨hf, h⟩)
        simp -implicitDefEqProofs only [go_sem, Ins.v, Ins.row, f1, hlen, normZ_one, normZ_nil, List.append_nil, List.map_cons, List.map_nil, zrw]
        omega
  · rw [show tgtL code i = [] from if_neg hT] at hput ⊢
    cases hj : isJump i.op with
    | false =>
      simp -implicitDefEqProofs only [go_sem, Ins.v, Ins.row, hlen, hr, hsz, k0, k1, k2, Option.some.injEq, forall_eq']
      refine CallS.pureF fp (by simp -implicitDefEqProofs only [go_sem, Ins.v, Ins.row]) ?_
      by_cases hF : falls i.op = true ∧ at_ + 1 < code.length
      · have f1 := eq_true hF.2
        rw [show fallL code at_ i = [at_ + 1] from if_pos hF, hF.1]
        simp -implicitDefEqProofs only [go_sem, Ins.v, Ins.row, f1, hlen]
        refine ⟨by omega, by omega, ?_⟩
        refine CallS.give (h' := []) 0 rfl rfl trivial ?_
        refine CallS.pureF hput (by simp -implicitDefEqProofs only [go_sem, Ins.v, Ins.row]) ?_
        simp -implicitDefEqProofs only [go_sem, Ins.v, Ins.row]
        exact frzZ _ _ _
      · rw [show fallL code at_ i = [] from if_neg hF]
        cases hf : falls i.op with
        | false => simp -implicitDefEqProofs only [go_sem, Ins.v, Ins.row, normZ_one, normZ_nil, List.append_nil, List.map_cons, List.map_nil, zrw]
        | true =>
          have f1 := eq_false (fun h => hF ⟨hf, h⟩)
          simp -implicitDefEqProofs only [go_sem, Ins.v, Ins.row, f1, hlen, normZ_one, normZ_nil, List.append_nil, List.map_cons, List.map_nil, zrw]
          omega
    | true =>
      by_cases hb : 0 ≤ i.b
      · have t1 := eq_true hb
        have t2 := eq_false (fun h => hT ⟨hj, hb, h⟩)
        simp -implicitDefEqProofs only [go_sem, Ins.v, Ins.row, t1, t2, hlen, hr, hsz, k0, k1, k2, Option.some.injEq, forall_eq']
        refine CallS.pureF fp (by simp -implicitDefEqProofs only [go_sem, Ins.v, Ins.row]) ?_
        by_cases hF : falls i.op = true ∧ at_ + 1 < code.length
        · have f1 := eq_true hF.2
          rw [show fallL code at_ i = [at_ + 1] from if_pos hF, hF.1]
          simp -implicitDefEqProofs only [go_sem, Ins.v, Ins.row, f1, hlen]
          refine ⟨by omega, by omega, ?_⟩
          refine CallS.give (h' := []) 0 rfl rfl trivial ?_
          refine CallS.pureF hput (by simp -implicitDefEqProofs only [go_sem, Ins.v, Ins.row]) ?_
          simp -implicitDefEqProofs only [go_sem, Ins.v, Ins.row]
          exact frzZ _ _ _
        · rw [show fallL code at_ i = [] from if_neg hF]
          cases hf : falls i.op with
          | false => simp -implicitDefEqProofs only [go_sem, Ins.v, Ins.row, normZ_one, normZ_nil, List.append_nil, List.map_cons, List.map_nil, zrw]
          | true =>
            have f1 := eq_false (fun h => hF ⟨hf, h⟩)
            simp -implicitDefEqProofs only [go_sem, Ins.v, Ins.row, f1, hlen, normZ_one, normZ_nil, List.append_nil, List.map_cons, List.map_nil, zrw]
            omega
      · have t1 := eq_false hb
        simp -implicitDefEqProofs only [go_sem, Ins.v, Ins.row, t1, hlen, hr, hsz, k0, k1, k2, Option.some.injEq, forall_eq']
        refine CallS.pureF fp (by simp -implicitDefEqProofs only [go_sem, Ins.v, Ins.row]) ?_
        by_cases hF : falls i.op = true ∧ at_ + 1 < code.length
        · have f1 := eq_true hF.2
          rw [show fallL code at_ i = [at_ + 1] from if_pos hF, hF.1]
          simp -implicitDefEqProofs only [go_sem, Ins.v, Ins.row, f1, hlen]
          refine ⟨by omega, by omega, ?_⟩
          refine CallS.give (h' := []) 0 rfl rfl trivial ?_
          refine CallS.pureF hput (by simp -implicitDefEqProofs only [go_sem, Ins.v, Ins.row]) ?_
          simp -implicitDefEqProofs only [go_sem, Ins.v, Ins.row]
          exact frzZ _ _ _
        · rw [show fallL code at_ i = [] from if_neg hF]
          cases hf : falls i.op with
          | false => simp -implicitDefEqProofs only [go_sem, Ins.v, Ins.row, normZ_one, normZ_nil, List.append_nil, List.map_cons, List.map_nil, zrw]
          | true =>
            have f1 := eq_false (fun h => hF ⟨hf, h⟩)
            simp -implicitDefEqProofs only [go_sem, Ins.v, Ins.row, f1, hlen, normZ_one, normZ_nil, List.append_nil, List.map_cons, List.map_nil, zrw]
            omega

/-! Loops. -/
theorem backT_asc (code : List Ins) (k : Nat) : Asc (normZ (backT code k)) := asc_normZ _
theorem normZ_len (l : List Int) : (normZ l).length ≤ l.length := Nat.le_trans (Lib.compact_length_le _) (by simp [sortZ])
end Go.Proofs.YtdnpnbenahpllaaDoor
