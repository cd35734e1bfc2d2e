/-
  What 'flow.Loops' answers; lists of numbers compared; the size of functions. No condition.
-/
import Derived.Test.YtdnpnbenahpllaaDoorFlowN
import Derived.Test.YtdnpnbenahpllaaDoorPro
set_option linter.unusedVariables false
set_option linter.unusedSimpArgs false
set_option maxRecDepth 100000
set_option maxHeartbeats 0
namespace Go.Proofs.YtdnpnbenahpllaaDoor
open Go.Abs
attribute [local irreducible] CallS Run
-- EV: Ins.v, Ins.row

def backL (code : List Ins) : List Int := code.zipIdx.filterMap fun p => if isJump p.1.op = true ∧ p.1.b ≤ p.2 then some p.1.b else none
def backT (code : List Ins) (k : Nat) : List Int := (code.zipIdx.take k).filterMap fun p => if isJump p.1.op = true ∧ p.1.b ≤ p.2 then some p.1.b else none
theorem backT_succ {code : List Ins} {k : Nat} {i : Ins} (h : code[k]? = some i) : backT code (k + 1) = backT code k ++ (if isJump i.op = true ∧ i.b ≤ (k : Int) then [i.b] else []) := by
  unfold backT
  have : code.zipIdx[k]? = some (i, k) := by simp [h]
  rw [List.take_add_one, this, Option.toList_some, List.filterMap_append]
  by_cases c : isJump i.op = true ∧ i.b ≤ (k : Int)
  · simp only [List.filterMap_cons, List.filterMap_nil, if_pos c]
  · simp only [List.filterMap_cons, List.filterMap_nil, if_neg c]
theorem backT_all (code : List Ins) : backT code code.length = backL code := by
  unfold backT backL
  rw [List.take_of_length_le (by simp)]
theorem backT_len (code : List Ins) (k : Nat) : (backT code k).length ≤ code.length := by
  unfold backT
  exact Nat.le_trans (List.length_filterMap_le _ _) (by simp; omega)

theorem loops_pure (code : List Ins) (hc : code.length ≤ 10000) (c0 c1 c2 c3 c4 c6 c7 c8 c9 c10 : V) :
    Pure Tryd.prog 13 [.agg [c0, c1, c2, c3, c4, .isl (code.map Ins.row), c6, c7, c8, c9, c10]] (.isl ((normZ (backL code)).map zrw)) := by
  refine Pure.of 1 (CallS.enter flow_Loops_ok (Nat.le_of_ble_eq_true rfl) ?_)
  have hrow : ∀ (k : Nat) (x : Ins), code[k]? = some x → (code.map Ins.row)[k]? = some x.row := fun k x h => by rw [List.getElem?_map, h]; rfl
  have hlen : (code.map Ins.row).length = code.length := List.length_map ..
  have hsz : rowsz (code.map Ins.row) 5 = True := eq_true fun r hr => by obtain ⟨y, _, rfl⟩ := List.mem_map.1 hr; rfl
  generalize code.map Ins.row = es at *
  refine Run.go 100 ?_
  simp -implicitDefEqProofs only [go_sem, Ins.v, Ins.row, initSl, hlen]
  refine Run.roundsK (fun (x : Nat × Nat × Nat) => ⟨[(11, .int .i64 x.1), (10, .int .i64 code.length), (9, .isl es), (3, .sl (13 * 10000 + 30) x.2.1 0 (backT code x.1).length)], [((13 * 10000 + 30), x.2.1, .rows 1 ((backT code x.1).map zrw))], x.2.2⟩)
    (fun x => x.1 ≤ code.length) (fun x => code.length - x.1) (0, 1, 2) ?_ (by simp only; omega) ?_
  · refine .trans (.fresh (13 * 10000 + 30) 1 _ _ _) (.turn id ?_ (.at 0 rfl rfl (.refl _) trivial))
    exact ⟨.refl _, .refl _, .refl _, .nils, trivial⟩
  rintro ⟨k, st, m⟩ hk ih
  simp only at hk ⊢
  have hz : ((k + 1 : Nat) : Int) = (k : Int) + 1 := by omega
  by_cases c : (k : Int) < code.length
  · refine Run.unf flow_Loops_l0_eq (Run.go 100 ?_)
    obtain ⟨i, hi⟩ : ∃ i, code[k]? = some i := ⟨code[k]'(by omega), by simp⟩
    have hr := hrow k i hi
    have k0 : ((0 : Int) ≤ (k : Int)) = True := eq_true (by omega)
    have k1 : ((k : Int) < (code.length : Int)) = True := eq_true c
    have k2 : (k < code.length) = True := eq_true (by omega)
    have hb := backT_succ hi
    have hbl := backT_len code k
    cases hj : isJump i.op with
    | false =>
      rw [if_neg (by simp [hj])] at hb
      rw [List.append_nil] at hb
      have tp := target_pure i
      rw [hj] at tp
      simp -implicitDefEqProofs only [go_sem, Ins.v, Ins.row, hr, hsz, hlen, k0, k1, k2, Option.some.injEq, forall_eq']
      refine CallS.pureF tp (by simp -implicitDefEqProofs only [go_sem, Ins.v, Ins.row]) ?_
      simp -implicitDefEqProofs only [go_sem, Ins.v, Ins.row]
      refine ⟨by omega, ?_⟩
      refine ih _ (k + 1, st, m + 1) (by simp only; omega) (by simp only; omega) (Weak.wk ?_)
      simp only [hz, hb]
      simp -implicitDefEqProofs only [go_sem, Ins.v, Ins.row]
    | true =>
      have tp := target_pure i
      rw [hj] at tp
      by_cases d : i.b ≤ (k : Int)
      · rw [if_pos ⟨hj, d⟩] at hb
        have d' := eq_true d
        simp -implicitDefEqProofs only [go_sem, Ins.v, Ins.row, hr, hsz, hlen, k0, k1, k2, Option.some.injEq, forall_eq']
        refine CallS.pureF tp (by simp -implicitDefEqProofs only [go_sem, Ins.v, Ins.row]) ?_
        simp -implicitDefEqProofs only [go_sem, Ins.v, Ins.row, d']
        refine ⟨by omega, by omega, ?_⟩
        refine ih _ (k + 1, m + 1, m + 1 + 1) (by simp only; omega) (by simp only; omega) (Weak.wk ?_)
        simp only [hz, hb, List.map_append, List.length_append, List.map_cons, List.map_nil, List.length_cons, List.length_nil, zrw]
        simp -implicitDefEqProofs only [go_sem, Ins.v, Ins.row]
      · rw [if_neg fun h => d h.2, List.append_nil] at hb
        have d' := eq_false d
        simp -implicitDefEqProofs only [go_sem, Ins.v, Ins.row, hr, hsz, hlen, k0, k1, k2, Option.some.injEq, forall_eq']
        refine CallS.pureF tp (by simp -implicitDefEqProofs only [go_sem, Ins.v, Ins.row]) ?_
        simp -implicitDefEqProofs only [go_sem, Ins.v, Ins.row, d']
        refine ⟨by omega, ?_⟩
        refine ih _ (k + 1, st, m + 1) (by simp only; omega) (by simp only; omega) (Weak.wk ?_)
        simp only [hz, hb]
        simp -implicitDefEqProofs only [go_sem, Ins.v, Ins.row]
  · have e : k = code.length := by omega
    subst e
    rw [backT_all]
    have k1 : ((code.length : Int) < (code.length : Int)) = False := eq_false (by omega)
    have hbl := backT_len code code.length
    rw [backT_all] at hbl
    by_cases hn : backL code = []
    · rw [hn]
      refine Run.wk (.freeze (b := (13 * 10000 + 30)) (st := st) (sz := 1) (rs := []) (sl' := [(11, .int .i64 code.length), (10, .int .i64 code.length), (9, .isl es), (3, .isl [])]) (h' := []) List.mem_cons_self ?_ trivial) ?_
      · exact ⟨.of (.refl _), .of (.refl _), .of (.refl _), Frz.all rfl, trivial⟩
      refine Run.unf flow_Loops_l0_eq (Run.go 100 ?_)
      simp -implicitDefEqProofs only [go_sem, Ins.v, Ins.row, k1]
      refine CallS.pure sort_nil (by simp -implicitDefEqProofs only [go_sem, Ins.v, Ins.row]) ?_
      simp -implicitDefEqProofs only [go_sem, Ins.v, Ins.row]
      refine CallS.pure compact_nil (by simp -implicitDefEqProofs only [go_sem, Ins.v, Ins.row]) ?_
      simp -implicitDefEqProofs only [go_sem, Ins.v, Ins.row, normZ_nil, List.map_nil]
    · have hpos : 0 < (backL code).length := List.length_pos_iff.2 hn
      refine Run.unf flow_Loops_l0_eq (Run.go 100 ?_)
      simp -implicitDefEqProofs only [go_sem, Ins.v, Ins.row, k1]
      refine CallS.at [0] [] (sort_m (backL code) rfl hpos (by omega) _ _ _) rfl rfl ?_
      rintro r h' n' hn ⟨rfl, rfl⟩
      simp -implicitDefEqProofs only [go_sem, Ins.v, Ins.row]
      refine CallS.at [0] [] (compact_m (sortZ (backL code)) (m := (backL code).length) (by simp [sortZ]) hpos (by omega) _ _ _) rfl rfl ?_
      rintro r h' n' hn ⟨rfl, rfl⟩
      simp -implicitDefEqProofs only [go_sem, Ins.v, Ins.row, compact_take, frzZ, Nat.le_add_right]
      try rfl
end Go.Proofs.YtdnpnbenahpllaaDoor
