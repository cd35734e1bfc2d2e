/-
  The successors and what can be reached, as the reference has them. No condition.
-/
import Derived.Test.YtppcibdjmnpdhaaGreatDoorPutT
import Derived.Test.YtppcibdjmnpdhaaGreatDoorOpcM
import Derived.Test.YtppcibdjmnpdhaaGreatDoorFlowN
import Derived.Test.YtppcibdjmnpdhaaGreatDoorReachT
import Derived.Test.YtppcibdjmnpdhaaGreatDoorFn
set_option linter.unusedVariables false
set_option linter.unusedSimpArgs false
set_option maxRecDepth 100000
set_option maxHeartbeats 0
namespace Go.Proofs.YtppcibdjmnpdhaaGreatDoor
open Go.Abs
attribute [local irreducible] CallS Run
-- EV: Ins.v, Ins.row
attribute [local go_sem] Ins.v Ins.row
-- EV: Ins.v, Ins.row
theorem put_pure (l : List Int) (hl : Asc l) (hB : l.length ≤ 100000) (r : Int) : Pure Tryz.prog 24 [.isl (l.map zrw), .int .i64 r] (.isl ((insZ l r).map zrw)) := by
  refine Pure.of 1 (CallS.enter scriptingref35_Put_ok (Nat.le_of_ble_eq_true rfl) ?_)
  have hrow : ∀ (k : Nat) (x : Int), l[k]? = some x → (l.map zrw)[k]? = some [.int .i64 x] := fun k x h => zrw_at h
  have hlen : (l.map zrw).length = l.length := List.length_map ..
  have hsz := rowszZ l
  generalize l.map zrw = es at *
  refine Run.go 100 ?_
  simp -implicitDefEqProofs only [go_sem, initSl]
  refine Run.rounds (fun (x : Nat × Nat × Nat) => ⟨[(7, .int .i64 x.1), (6, .bool (doneP l r x.1)), (5, .sl (24 * 10000 + 8) x.2.1 0 (outP l r x.1).length), (1, .int .i64 r), (0, .isl es)], [((24 * 10000 + 8), x.2.1, .rows 1 ((outP l r x.1).map zrw))], x.2.2⟩)
    (fun x => x.1 ≤ l.length) (fun x => l.length - x.1) (0, 0, 1) (by simp -implicitDefEqProofs only [go_sem, outP_zero, doneP, List.take_zero, List.any_nil, List.length_nil, List.map_nil]) (by simp only; omega) ?_
  rintro ⟨k, st, m⟩ hk ih
  simp only at hk ⊢
  have hz : ((k + 1 : Nat) : Int) = (k : Int) + 1 := by omega
  refine Run.unf scriptingref35_Put_l0_eq (Run.go 100 ?_)
  have hol := outP_len l r k
  by_cases c : (k : Int) < l.length
  · obtain ⟨x, hx⟩ : ∃ x, l[k]? = some x := ⟨l[k]'(by omega), by simp⟩
    have hr := hrow k x hx
    have k0 : ((0 : Int) ≤ (k : Int)) = True := eq_true (by omega)
    have k1 : ((k : Int) < (l.length : Int)) = True := eq_true c
    have k2 : (k < l.length) = True := eq_true (by omega)
    have e1 := outP_succ hl (r := r) hx
    have e2 := doneP_succ (r := r) hx
    by_cases hd : doneP l r k = false ∧ r ≤ x
    · rw [if_pos hd] at e1
      obtain ⟨hd1, hd2⟩ := hd
      have d2 : decide (r ≤ x) = true := by simp [hd2]
      rw [hd1, d2] at e2
      have g1 := eq_true hd2
      by_cases e : x = r
      · rw [if_pos e, List.append_nil] at e1
        have g2 := eq_false (fun h : ¬ x = r => h e)
        subst e
        simp -implicitDefEqProofs only [go_sem, hlen, hr, hsz, k0, k1, k2, hd1, Option.some.injEq, forall_eq', Int.le_refl]
        refine ⟨by omega, by omega, ?_⟩
        refine ih _ (k + 1, m, m + 1) (by simp only; omega) (by simp only; omega) ?_
        simp only [hz, e1, e2, List.map_append, List.length_append, List.map_cons, List.map_nil, List.length_cons, List.length_nil, zrw, Bool.false_or]
        simp -implicitDefEqProofs only [go_sem]
      · rw [if_neg e] at e1
        have g2 := eq_false e
        simp -implicitDefEqProofs only [go_sem, hlen, hr, hsz, k0, k1, k2, hd1, g1, g2, Option.some.injEq, forall_eq']
        refine ⟨by omega, by omega, by omega, ?_⟩
        refine ih _ (k + 1, m + 1, m + 1 + 1) (by simp only; omega) (by simp only; omega) ?_
        simp only [hz, e1, e2, List.map_append, List.length_append, List.map_cons, List.map_nil, List.length_cons, List.length_nil, zrw, Bool.false_or]
        simp -implicitDefEqProofs only [go_sem]
        rw [List.take_of_length_le (by simp)]
    · rw [if_neg hd, List.append_nil] at e1
      have hor : doneP l r k = true ∨ ¬ r ≤ x := by
        cases h : doneP l r k with
        | true => exact .inl rfl
        | false => exact .inr fun h2 => hd ⟨h, h2⟩
      have fin : ∀ s, doneP l r (k + 1) = doneP l r k → _ := fun s h => ih s (k + 1, m, m + 1) (by simp only; omega) (by simp only; omega)
      by_cases e : x = r
      · rw [if_pos e, List.append_nil] at e1
        have e3 : doneP l r (k + 1) = doneP l r k := by
          rw [e2]; rcases hor with h | h
          · rw [h]; rfl
          · omega
        rcases hor with h | h
        · subst e
          simp -implicitDefEqProofs only [go_sem, hlen, hr, hsz, k0, k1, k2, h, Option.some.injEq, forall_eq']
          refine ⟨by omega, ?_⟩
          refine ih _ (k + 1, st, m) (by simp only; omega) (by simp only; omega) ?_
          simp only [hz, e1, e3, h]
          simp -implicitDefEqProofs only [go_sem]
        · omega
      · rw [if_neg e] at e1
        have g2 := eq_false e
        cases h : doneP l r k with
        | true =>
          rw [h, Bool.true_or] at e2
          simp -implicitDefEqProofs only [go_sem, hlen, hr, hsz, k0, k1, k2, h, g2, Option.some.injEq, forall_eq']
          refine ⟨by omega, by omega, ?_⟩
          refine ih _ (k + 1, m, m + 1) (by simp only; omega) (by simp only; omega) ?_
          simp only [hz, e1, e2, List.map_append, List.length_append, List.map_cons, List.map_nil, List.length_cons, List.length_nil, zrw]
          simp -implicitDefEqProofs only [go_sem]
        | false =>
          have h1 : ¬ r ≤ x := by rcases hor with h2 | h2; rw [h] at h2; cases h2; exact h2
          have g1 := eq_false h1
          have d2 : decide (r ≤ x) = false := by simp; omega
          rw [h, d2, Bool.or_false] at e2
          simp -implicitDefEqProofs only [go_sem, hlen, hr, hsz, k0, k1, k2, h, g1, g2, Option.some.injEq, forall_eq']
          refine ⟨by omega, by omega, ?_⟩
          refine ih _ (k + 1, m, m + 1) (by simp only; omega) (by simp only; omega) ?_
          simp only [hz, e1, e2, List.map_append, List.length_append, List.map_cons, List.map_nil, List.length_cons, List.length_nil, zrw]
          simp -implicitDefEqProofs only [go_sem]
  · have e : k = l.length := by omega
    subst e
    have k1 : ((l.length : Int) < (l.length : Int)) = False := eq_false (by omega)
    have ha := outP_all l r
    cases h : doneP l r l.length with
    | true =>
      rw [h, if_pos rfl] at ha
      rw [ha]
      simp -implicitDefEqProofs only [go_sem, hlen, k1, h, viewV, List.drop_zero, Nat.zero_add, List.length_map, List.take_length, frzZ, Nat.le_refl]
    | false =>
      rw [h, if_neg (by simp)] at ha
      rw [ha]
      simp -implicitDefEqProofs only [go_sem, hlen, k1, h]
      refine ⟨by omega, ?_⟩
      rw [List.take_of_length_le (by simp), show List.map zrw (outP l r l.length) ++ [[V.int .i64 r]] = (outP l r l.length ++ [r]).map zrw from by simp [zrw]]
      exact frzZ _ _ _
-- EV: Ins.v, Ins.row
theorem rfalls_pure (i : Ins) : Pure Tryz.prog 23 [i.v] (.bool (falls i.op)) := by
  have hj : falls i.op = decide (i.op ≠ 14 ∧ i.op ≠ 17 ∧ i.op ≠ 18) := rfl
  rw [hj]
  refine Pure.of 0 (CallS.enter scriptingref32_Falls_ok (Nat.le_of_ble_eq_true rfl) ?_)
  refine Run.go 100 ?_
  simp -implicitDefEqProofs only [go_sem, initSl]
  repeat' (first | refine And.intro ?_ ?_ | refine fun h => ?_)
  all_goals simp_all
theorem normZ_insZ (l : List Int) (r : Int) (h : Asc l) : insZ l r = normZ (l ++ [r]) := by rw [← insZ_normZ, normZ_asc h]
theorem subZ (l : List Int) : (l.map zrw).map (fun r => r.map (V.sub lost)) = l.map zrw := frzZ 0 [] l
theorem asc_tgtL (code : List Ins) (i : Ins) : Asc (tgtL code i) := by unfold tgtL; split; exact asc_one _; exact asc_nil
theorem CallS.give {P : Program} {f : FuncId} {b st m n : Nat} {rs : List (List V)} {v : V} {h h' : Heap} {k : Res} (i : Nat) (hi : h[i]? = some (b, st, .rows 1 rs)) (hm : m = rs.length) (hh : FrzH b st rs h h')
    (hc : CallS P f [.isl rs, v] h' n k) : CallS P f [.sl b st 0 m, v] h n k :=
  CallS.pre (xs' := [.isl rs, v]) (Wk.freeze (sl' := [(1, v), (0, .isl rs)]) (List.mem_of_getElem? hi) ⟨.of (.refl _), Frz.all hm, trivial⟩ hh) rfl hc
theorem rnext_pure (code : List Ins) (at_ : Int) (hc : code.length ≤ 100000) (c0 c1 c2 c3 c4 c6 c7 c8 c9 c10 : V) :
    Pure Tryz.prog 11 [.agg [c0, c1, c2, c3, c4, .isl (code.map Ins.row), c6, c7, c8, c9, c10], .int .i64 at_] (.isl ((nextL code at_).map zrw)) := by
  refine Pure.of 1 (CallS.enter scriptingref35_Next_ok (Nat.le_of_ble_eq_true rfl) ?_)
  have hrow : ∀ (k : Nat) (x : Ins), code[k]? = some x → (code.map Ins.row)[k]? = some x.row := fun k x h => by rw [List.getElem?_map, h]; rfl
  have hlen : (code.map Ins.row).length = code.length := List.length_map ..
  have hsz : rowsz (code.map Ins.row) 5 = True := eq_true fun r hr => by obtain ⟨y, _, rfl⟩ := List.mem_map.1 hr; rfl
  generalize code.map Ins.row = es at *
  refine Run.go 100 ?_
  by_cases h1 : at_ < 0
  · have e : nextL code at_ = [] := by rw [nextL, if_pos (.inl h1)]
    rw [e]
    simp -implicitDefEqProofs only [go_sem, initSl, h1, List.map_nil]
  by_cases h2 : (code.length : Int) ≤ at_
  · have e : nextL code at_ = [] := by rw [nextL, if_pos (.inr h2)]
    rw [e]
    simp -implicitDefEqProofs only [go_sem, initSl, h1, h2, hlen, List.map_nil]
  obtain ⟨i, hi⟩ : ∃ i, code[at_.toNat]? = some i := ⟨code[at_.toNat]'(by omega), by simp⟩
  have hr := hrow _ _ hi
  have k0 : ((0 : Int) ≤ at_) = True := eq_true (by omega)
  have k1 : (at_ < (code.length : Int)) = True := eq_true (by omega)
  have k2 : (at_.toNat < code.length) = True := eq_true (by omega)
  have e : nextL code at_ = normZ (tgtL code i ++ fallL code at_ i) := by rw [nextL, if_neg (by omega), hi]
  rw [e]
  clear e
  have hput := put_pure (tgtL code i) (asc_tgtL code i) (by unfold tgtL; split <;> simp) (at_ + 1)
  rw [normZ_insZ _ _ (asc_tgtL code i)] at hput
  have tp := rtarget_pure i
  have fp := rfalls_pure i
  simp -implicitDefEqProofs only [go_sem, initSl, h1, h2, hlen, hr, hsz, k0, k1, k2, Option.some.injEq, forall_eq']
  refine CallS.pureF tp (by simp -implicitDefEqProofs only [go_sem]) ?_
  by_cases hT : isJump i.op = true ∧ 0 ≤ i.b ∧ i.b < code.length
  · have t1 := eq_true hT.2.1
    have t2 := eq_true hT.2.2
    rw [show tgtL code i = [i.b] from if_pos hT] at hput ⊢
    rw [hT.1]
    simp -implicitDefEqProofs only [go_sem, t1, t2, hlen, hr, hsz, k0, k1, k2, Option.some.injEq, forall_eq']
    refine CallS.pureF fp (by simp -implicitDefEqProofs only [go_sem]) ?_
    by_cases hF : falls i.op = true ∧ at_ + 1 < code.length
    · have f1 := eq_true hF.2
      rw [show fallL code at_ i = [at_ + 1] from if_pos hF, hF.1]
      simp -implicitDefEqProofs only [go_sem, f1, hlen]
      refine ⟨by omega, by omega, ?_⟩
      refine CallS.give (h' := []) 0 rfl rfl trivial ?_
      refine CallS.pureF hput (by simp -implicitDefEqProofs only [go_sem]) ?_
      simp -implicitDefEqProofs only [go_sem]
      exact frzZ _ _ _
    · rw [show fallL code at_ i = [] from if_neg hF]
      cases hf : falls i.op with
      | false => simp -implicitDefEqProofs only [go_sem, normZ_one, normZ_nil, List.append_nil, List.map_cons, List.map_nil, zrw]
      | true =>
        have f1 := eq_false (fun h => hF ⟨hf, h⟩)
        simp -implicitDefEqProofs only [go_sem, f1, hlen, normZ_one, normZ_nil, List.append_nil, List.map_cons, List.map_nil, zrw]
        omega
  · rw [show tgtL code i = [] from if_neg hT] at hput ⊢
    cases hj : isJump i.op with
    | false =>
      simp -implicitDefEqProofs only [go_sem, hlen, hr, hsz, k0, k1, k2, Option.some.injEq, forall_eq']
      refine CallS.pureF fp (by simp -implicitDefEqProofs only [go_sem]) ?_
      by_cases hF : falls i.op = true ∧ at_ + 1 < code.length
      · have f1 := eq_true hF.2
        rw [show fallL code at_ i = [at_ + 1] from if_pos hF, hF.1]
        simp -implicitDefEqProofs only [go_sem, f1, hlen]
        refine ⟨by omega, by omega, ?_⟩
        refine CallS.give (h' := []) 0 rfl rfl trivial ?_
        refine CallS.pureF hput (by simp -implicitDefEqProofs only [go_sem]) ?_
        simp -implicitDefEqProofs only [go_sem]
        exact frzZ _ _ _
      · rw [show fallL code at_ i = [] from if_neg hF]
        cases hf : falls i.op with
        | false => simp -implicitDefEqProofs only [go_sem, normZ_one, normZ_nil, List.append_nil, List.map_cons, List.map_nil, zrw]
        | true =>
          have f1 := eq_false (fun h => hF ⟨hf, h⟩)
          simp -implicitDefEqProofs only [go_sem, f1, hlen, normZ_one, normZ_nil, List.append_nil, List.map_cons, List.map_nil, zrw]
          omega
    | true =>
      by_cases hb : 0 ≤ i.b
      · have t1 := eq_true hb
        have t2 := eq_false (fun h => hT ⟨hj, hb, h⟩)
        simp -implicitDefEqProofs only [go_sem, t1, t2, hlen, hr, hsz, k0, k1, k2, Option.some.injEq, forall_eq']
        refine CallS.pureF fp (by simp -implicitDefEqProofs only [go_sem]) ?_
        by_cases hF : falls i.op = true ∧ at_ + 1 < code.length
        · have f1 := eq_true hF.2
          rw [show fallL code at_ i = [at_ + 1] from if_pos hF, hF.1]
          simp -implicitDefEqProofs only [go_sem, f1, hlen]
          refine ⟨by omega, by omega, ?_⟩
          refine CallS.give (h' := []) 0 rfl rfl trivial ?_
          refine CallS.pureF hput (by simp -implicitDefEqProofs only [go_sem]) ?_
          simp -implicitDefEqProofs only [go_sem]
          exact frzZ _ _ _
        · rw [show fallL code at_ i = [] from if_neg hF]
          cases hf : falls i.op with
          | false => simp -implicitDefEqProofs only [go_sem, normZ_one, normZ_nil, List.append_nil, List.map_cons, List.map_nil, zrw]
          | true =>
            have f1 := eq_false (fun h => hF ⟨hf, h⟩)
            simp -implicitDefEqProofs only [go_sem, f1, hlen, normZ_one, normZ_nil, List.append_nil, List.map_cons, List.map_nil, zrw]
            omega
      · have t1 := eq_false hb
        simp -implicitDefEqProofs only [go_sem, t1, hlen, hr, hsz, k0, k1, k2, Option.some.injEq, forall_eq']
        refine CallS.pureF fp (by simp -implicitDefEqProofs only [go_sem]) ?_
        by_cases hF : falls i.op = true ∧ at_ + 1 < code.length
        · have f1 := eq_true hF.2
          rw [show fallL code at_ i = [at_ + 1] from if_pos hF, hF.1]
          simp -implicitDefEqProofs only [go_sem, f1, hlen]
          refine ⟨by omega, by omega, ?_⟩
          refine CallS.give (h' := []) 0 rfl rfl trivial ?_
          refine CallS.pureF hput (by simp -implicitDefEqProofs only [go_sem]) ?_
          simp -implicitDefEqProofs only [go_sem]
          exact frzZ _ _ _
        · rw [show fallL code at_ i = [] from if_neg hF]
          cases hf : falls i.op with
          | false => simp -implicitDefEqProofs only [go_sem, normZ_one, normZ_nil, List.append_nil, List.map_cons, List.map_nil, zrw]
          | true =>
            have f1 := eq_false (fun h => hF ⟨hf, h⟩)
            simp -implicitDefEqProofs only [go_sem, f1, hlen, normZ_one, normZ_nil, List.append_nil, List.map_cons, List.map_nil, zrw]
            omega
theorem frzB (d : Nat) (h : Heap) (l : List Bool) : (l.map brw).map (fun r => r.map (frz d h)) = l.map brw := by
  rw [List.map_map]
  exact List.map_congr_left fun y _ => by simp [brw, frz_bool]
theorem brw_at {l : List Bool} {k : Nat} {x : Bool} (h : l[k]? = some x) : (l.map brw)[k]? = some [.bool x] := by rw [List.getElem?_map, h]; rfl
theorem brw_set (l : List Bool) (j : Nat) (x : Bool) : (l.map brw).set j [.bool x] = (l.set j x).map brw := by rw [List.map_set]; rfl
theorem rreach_pure (code : List Ins) (hc : code.length ≤ 10000) (c0 c1 c2 c3 c4 c6 c7 c8 c9 c10 : V) (hb0 : [c0, c1, c2, c3, c4, c6, c7, c8, c9, c10].map (V.sub lost) = [c0, c1, c2, c3, c4, c6, c7, c8, c9, c10]) :
    Pure Tryz.prog 10 [.agg [c0, c1, c2, c3, c4, .isl (code.map Ins.row), c6, c7, c8, c9, c10]] (.isl ((reachL code).map brw)) := by
  refine Pure.of 1 (CallS.enter scriptingref35_Reach_ok (Nat.le_of_ble_eq_true rfl) ?_)
  simp only [List.map_cons, List.map_nil, List.cons.injEq, and_true] at hb0
  have hnx := fun a => rnext_pure code a (by omega) c0 c1 c2 c3 c4 c6 c7 c8 c9 c10
  have hlen : (code.map Ins.row).length = code.length := List.length_map ..
  have hsub : (code.map Ins.row).map (fun r => r.map (V.sub lost)) = code.map Ins.row := subI lost code
  generalize code.map Ins.row = es at *
  refine Run.go 100 ?_
  by_cases h0 : code.length = 0
  · have e : es = [] := List.eq_nil_of_length_eq_zero (by omega)
    subst e
    rw [reachL_nil h0]
    simp -implicitDefEqProofs only [go_sem, initSl, List.length_nil]
    refine Run.rounds (fun (x : Nat) => ⟨[(4, .sl (10 * 10000 + 12) 2 0 0), (3, .sl (10 * 10000 + 11) 1 0 0)], [((10 * 10000 + 11), 1, .rows 1 [])], x⟩) (fun _ => True) (fun _ => 0) 3 (by simp -implicitDefEqProofs only [go_sem, List.replicate_zero]) trivial ?_
    rintro x _ ih
    refine Run.unf scriptingref35_Reach_l0_eq (Run.go 100 ?_)
    simp -implicitDefEqProofs only [go_sem, List.length_nil]
  have hp : 0 < code.length := by omega
  have g0 := eq_true hp
  have g1 : ((0 : Int) < (code.length : Int)) = True := eq_true (by omega)
  have hrep : (List.replicate code.length [V.bool false])[0]? = some [.bool false] := by simp [hp]
  simp -implicitDefEqProofs only [go_sem, initSl, hlen, g0, g1, hrep, Option.some.injEq, forall_eq', List.drop_one, List.tail_cons]
  refine ⟨by omega, by omega, ?_⟩
  refine Run.rounds (fun (x : List Int × List (List V) × List Bool × Nat × Nat) => ⟨[(4, .sl (10 * 10000 + 12) x.2.2.2.1 0 x.1.length), (3, .sl (10 * 10000 + 11) 1 0 code.length), (1, .ptr (10 * 10000 + 1) 0 0 0)], [((10 * 10000 + 12), x.2.2.2.1, .rows 1 x.2.1), ((10 * 10000 + 11), 1, .rows 1 (x.2.2.1.map brw)), ((10 * 10000 + 1), 0, .rows 11 [[c0, c1, c2, c3, c4, .isl es, c6, c7, c8, c9, c10]])], x.2.2.2.2⟩)
    (fun x => RI code x.2.2.1 x.1 ∧ x.2.1.take x.1.length = x.1.map zrw ∧ x.1.length ≤ x.2.1.length ∧ x.1.length + x.2.2.1.count false ≤ code.length) (fun x => 2 * x.2.2.1.count false + x.1.length) ([0], [[.int .i64 0]], (List.replicate code.length false).set 0 true, 3, 4) (by simp -implicitDefEqProofs only [go_sem, List.append_nil, List.map_cons, List.map_nil, zrw, List.length_cons, List.length_nil, List.map_set, List.map_replicate, brw]) ⟨RI.start hp, rfl, Nat.le_refl _, start_count hp⟩ ?_
  rintro ⟨td, R, ms, st, m⟩ ⟨hI, hR, hRl, hcnt⟩ ih
  simp only at hI ih hR hRl hcnt ⊢
  have hml := hI.len
  refine Run.unf scriptingref35_Reach_l0_eq (Run.go 100 ?_)
  rcases nil_or_snoc td with rfl | ⟨td, t, rfl⟩
  · have hfin := hI.fin
    simp -implicitDefEqProofs only [go_sem, List.length_nil]
    rw [← hfin]
    have e : (ms.map brw).take code.length = ms.map brw := List.take_of_length_le (by simp [hml])
    have e2 : Nat.ble code.length (ms.map brw).length = true := Nat.ble_eq_true_of_le (by simp [hml])
    simp -implicitDefEqProofs only [go_sem, e, e2, hml]
    exact frzB _ _ _
  obtain ⟨a, rfl, ha, hJ0⟩ := hI.pop
  have hln : (td ++ [(a : Int)]).length = td.length + 1 := by simp
  rw [hln] at hR hRl hcnt ih ⊢
  generalize hT : td.length + 1 = T at *
  have q0 : ((0 : Int) < (T : Int)) = True := eq_true (by omega)
  have q1 : ((0 : Int) ≤ (T : Int) - 1) = True := eq_true (by omega)
  have q2 : (((T : Int) - 1) < (T : Int)) = True := eq_true (by omega)
  have q3 : ((T : Int) - 1).toNat = td.length := by omega
  have q3' : ((T : Int) - 1 - 0).toNat = td.length := by omega
  have q4 : R[td.length]? = some [.int .i64 a] := by
    have h1 : (R.take T)[td.length]? = some [.int .i64 a] := by rw [hR]; exact zrw_at (by simp)
    rwa [List.getElem?_take_of_lt (by omega)] at h1
  have q5 : (((T : Int) - 1) ≤ (T : Int)) = True := eq_true (by omega)
  have hR' : R.take td.length = td.map zrw := by
    have := congrArg (List.take td.length) hR
    rw [List.take_take, Nat.min_eq_left (by omega)] at this
    rw [this]; simp
  simp -implicitDefEqProofs only [go_sem, q0, q1, q2, q3, q3', q4, q5, Option.some.injEq, forall_eq']
  refine ⟨by omega, by omega, by omega, ?_⟩
  refine CallS.pure (hnx a) (by simp -implicitDefEqProofs only [go_sem, hsub, hb0]) ?_
  have hnl := nextL_len2 code a
  have hnin := fun x (h : x ∈ nextL code a) => nextL_in h
  generalize hnle : nextL code a = nl at *
  have hnls : ∀ (k : Nat) (x : Int), nl[k]? = some x → (nl.map zrw)[k]? = some [.int .i64 x] := fun k x h => zrw_at h
  have hnll : (nl.map zrw).length = nl.length := List.length_map ..
  have hnlz := rowszZ nl
  have hnlf : (nl.map zrw).map (fun r => r.map (V.sub lost)) = nl.map zrw := subZ nl
  generalize nl.map zrw = nls at *
  simp -implicitDefEqProofs only [go_sem, hnll]
  clear hnx hsub hrep hI
  refine Run.rounds (fun (x : Nat × List Int × List (List V) × List Bool × Nat × Nat) => ⟨[(7, .int .i64 (x.1 : Nat)), (6, .isl nls), (4, .sl (10 * 10000 + 12) x.2.2.2.2.1 0 x.2.1.length), (3, .sl (10 * 10000 + 11) 1 0 code.length), (1, .ptr (10 * 10000 + 1) 0 0 0)], [((10 * 10000 + 12), x.2.2.2.2.1, .rows 1 x.2.2.1), ((10 * 10000 + 11), 1, .rows 1 (x.2.2.2.1.map brw)), ((10 * 10000 + 1), 0, .rows 11 [[c0, c1, c2, c3, c4, .isl es, c6, c7, c8, c9, c10]])], x.2.2.2.2.2⟩)
    (fun x => x.1 ≤ nl.length ∧ RJ code a x.1 x.2.2.2.1 x.2.1 ∧ x.2.2.1.take x.2.1.length = x.2.1.map zrw ∧ x.2.1.length ≤ x.2.2.1.length ∧ x.2.1.length + x.2.2.2.1.count false ≤ code.length ∧ 2 * x.2.2.2.1.count false + x.2.1.length < 2 * ms.count false + T) (fun x => nl.length - x.1) (0, td, R, ms, st, m) (by simp -implicitDefEqProofs only [go_sem]) ⟨by simp only; omega, hJ0, hR', by simp only; omega, by simp only; omega, by simp only; omega⟩ ?_
  rintro ⟨k, td2, R2, ms2, st2, m2⟩ ⟨hk, hJ, hR2, hRl2, hcnt2, hmu⟩ ih2
  simp only at hk hJ hR2 hRl2 hcnt2 hmu ih2 ⊢
  have hml2 := hJ.len
  refine Run.unf scriptingref35_Reach_l1_eq (Run.go 100 ?_)
  have hz : ((k + 1 : Nat) : Int) = (k : Int) + 1 := by omega
  by_cases c : (k : Int) < nl.length
  rotate_left
  · simp -implicitDefEqProofs only [go_sem, c, hnll]
    exact ih _ (td2, R2, ms2, st2, m2) ⟨hJ.over (by rw [hnle]; omega), hR2, hRl2, hcnt2⟩ hmu (by simp -implicitDefEqProofs only [go_sem])
  obtain ⟨x, hx⟩ : ∃ x, nl[k]? = some x := ⟨nl[k]'(by omega), by simp⟩
  have hxr := hnls k x hx
  have hxin := hnin x (List.mem_of_getElem? hx)
  obtain ⟨j, rfl⟩ : ∃ j : Nat, x = j := ⟨x.toNat, by omega⟩
  have k0 : ((0 : Int) ≤ (k : Int)) = True := eq_true (by omega)
  have k1 : ((k : Int) < (nl.length : Int)) = True := eq_true c
  have k2 : (k < nl.length) = True := eq_true (by omega)
  have j0 : ((0 : Int) ≤ (j : Int)) = True := eq_true (by omega)
  have j1 : ((j : Int) < (code.length : Int)) = True := eq_true (by omega)
  have j2 : (j < code.length) = True := eq_true (by omega)
  obtain ⟨bv, hbv⟩ : ∃ b, ms2[j]? = some b := ⟨ms2[j]'(by omega), by simp⟩
  have hbr := brw_at hbv
  have hmm : (ms2.map brw).length = code.length := by simp [hml2]
  have hset := brw_set ms2 j true
  generalize hBe : ms2.map brw = B at *
  cases bv with
  | true =>
    have hJ' := hJ.skip (by rw [hnle]; exact hx) hbv
    simp -implicitDefEqProofs only [go_sem, hnll, hnlz, hxr, k0, k1, k2, j0, j1, j2, hbr, hmm, Option.some.injEq, forall_eq']
    refine ⟨by omega, ?_⟩
    refine ih2 _ (k + 1, td2, R2, ms2, st2, m2) ⟨by simp only; omega, hJ', hR2, hRl2, hcnt2, hmu⟩ (by simp only; omega) ?_
    simp only [hz]
    simp -implicitDefEqProofs only [go_sem, hBe]
  | false =>
    have hJ' := hJ.mark (by rw [hnle]; exact hx) hbv
    have hct := count_mark hbv
    have hbl := hmm
    simp -implicitDefEqProofs only [go_sem, hnll, hnlz, hxr, k0, k1, k2, j0, j1, j2, hbr, hbl, List.length_set, hset, Option.some.injEq, forall_eq', List.drop_one, List.tail_cons]
    refine ⟨by omega, by omega, by omega, ?_⟩
    refine ih2 _ (k + 1, td2 ++ [(j : Int)], R2.take td2.length ++ [[.int .i64 j]], ms2.set j true, m2, m2 + 1) ⟨by simp only; omega, hJ', ?_, ?_, ?_, ?_⟩ (by simp only; omega) ?_
    · simp only [List.length_append, List.length_cons, List.length_nil]
      rw [List.take_of_length_le (by simp; omega), hR2]; simp [zrw]
    · simp; omega
    · simp; omega
    · simp; omega
    · simp only [hz, List.length_append, List.length_cons, List.length_nil]
      simp -implicitDefEqProofs only [go_sem]
theorem rreach_of (p : Fn) (hc : p.code.length ≤ 10000) : Pure Tryz.prog 10 [.agg p.row] (.isl ((reachL p.code).map brw)) := by
  have hs := Fn.row_sub lost p
  rw [Fn.row_eq] at hs ⊢
  refine rreach_pure p.code hc _ _ _ _ _ _ _ _ _ _ ?_
  simp only [List.map_cons, List.map_nil, List.cons.injEq, and_true] at hs ⊢
  obtain ⟨a0, a1, a2, a3, a4, a5, a6, a7, a8, a9, a10⟩ := hs
  exact ⟨a0, a1, a2, a3, a4, a6, a7, a8, a9, a10⟩
theorem rnext_of (p : Fn) (hc : p.code.length ≤ 100000) (a : Int) : Pure Tryz.prog 11 [.agg p.row, .int .i64 a] (.isl ((nextL p.code a).map zrw)) := by
  rw [Fn.row_eq]
  exact rnext_pure p.code a hc _ _ _ _ _ _ _ _ _ _
end Go.Proofs.YtppcibdjmnpdhaaGreatDoor
