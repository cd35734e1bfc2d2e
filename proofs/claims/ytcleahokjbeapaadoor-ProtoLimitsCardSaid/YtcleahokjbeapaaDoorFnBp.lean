/-
  ProtoLimits. No condition.
-/
import Derived.Test.YtcleahokjbeapaaDoorFnB
import Derived.Test.YtcleahokjbeapaaDoorFnV
import Derived.Test.YtcleahokjbeapaaDoorRepB
set_option linter.unusedVariables false
set_option linter.unusedSimpArgs false
set_option maxRecDepth 100000
set_option maxHeartbeats 0
namespace Go.Proofs.YtcleahokjbeapaaDoor
open Go.Abs
attribute [local irreducible] CallS Run RndS

abbrev pN : Nat := (3 * 10000 + 3)
abbrev qN : Nat := (3 * 10000 + 4)
abbrev cN : Nat := (3 * 10000 + 7)
abbrev dN : Nat := (3 * 10000 + 25)
-- EV: pN, qN, cN, dN

def kR : List V := [.int .i64 0, .int .i64 0, .int .i64 0, .str [], .int .i64 0]
def uR : List V := [.str [], .bool false, .int .i64 0]
def plR (name : List UInt8) (regs : Int) (k u : List (List V)) (ps : List (List V)) : List V := [.str name, .int .i64 0, .int .i64 0, .bool false, .int .i64 regs, .isl [insR], .isl [], .isl k, .isl ps, .isl u, .isl []]
theorem plain_row (name : List UInt8) (regs : Int) (c u : Nat) (protos : List Fn) : (plainF name regs (List.replicate c kZ) protos (List.replicate u uZ)).row = plR name regs (List.replicate c kR) (List.replicate u uR) (protos.map Fn.row) := by
  rw [Fn.row_eq]
  simp only [plainF, List.map_replicate]
  rfl
theorem deep_row (k : Nat) : (deepF (k + 1)).row = plR [] 0 [] [] [(deepF k).row] := plain_row [] 0 0 0 [deepF k]
theorem deep_row0 : (deepF 0).row = oneR := plain_row [] 0 0 0 []
theorem plain_check {name : List UInt8} {regs : Int} {c u : Nat} (hn : name.length ≤ 4096) (h0 : 0 ≤ regs) (hr : regs ≤ 4096) (hc : c ≤ 4096) (hu : u ≤ 60) :
    Pure Tryd.prog 5 [.agg (plR name regs (List.replicate c kR) (List.replicate u uR) [])] (.int .i64 0) := by
  have := pcheck_pure (plainF name regs (List.replicate c kZ) [] (List.replicate u uZ)) (plain_bd (by omega) (by omega)) (by rw [plain_depth]; omega)
  rw [plain_row, chk_plain hn h0 hr hc hu] at this
  exact this
theorem plain_checkX {name : List UInt8} {regs : Int} {c u : Nat} (hc : c ≤ 5000) (hu : u ≤ 5000) (h : ¬ (c ≤ 4096 ∧ u ≤ 60 ∧ regs ≤ 4096 ∧ name.length ≤ 4096)) :
    Pure Tryd.prog 5 [.agg (plR name regs (List.replicate c kR) (List.replicate u uR) [])] (.int .i64 3) := by
  have := pcheck_pure (plainF name regs (List.replicate c kZ) [] (List.replicate u uZ)) (plain_bd hc hu) (by rw [plain_depth]; omega)
  rw [plain_row, chk_over h] at this
  exact this
theorem deep_check {k : Nat} (h : k < 64) : Pure Tryd.prog 5 [.agg (deepF k).row] (.int .i64 0) := by
  have := pcheck_pure (deepF k) (deep_bd k) (by rw [deep_depth]; omega)
  rw [deep_in h] at this
  exact this
theorem deep_checkX : Pure Tryd.prog 5 [.agg (plR [] 0 [] [] [(deepF 63).row])] (.int .i64 3) := by
  have := pcheck_pure (deepF 64) (deep_bd 64) (by rw [deep_depth]; omega)
  rw [deep_over (by decide), deep_row] at this
  exact this

theorem frz_row1 {st : Nat} {fs : List (List V)} {sz : Nat} {r r2 : List V} (hr : FrzL st fs r r2) : FrzB st fs (.rows sz [r]) (.rows sz [r2]) :=
  FrzB.rows (by simp) fun i r3 hi => by
    cases i with
    | zero => simp at hi; exact ⟨r, rfl, hi ▸ hr⟩
    | succ i => simp at hi

theorem row_frzB (d : Nat) (h : Heap) (p : Fn) : p.row.map (frz d h) = p.row := by
  cases d <;> exact Fn.row_sub _ p
theorem deep_rowX (k : Nat) : ∃ ps, (deepF k).row = plR [] 0 [] [] ps ∧ ∀ d h, ps.map (fun r => r.map (frz d h)) = ps := by
  cases k with
  | zero => exact ⟨[], deep_row0, fun d h => rfl⟩
  | succ k => exact ⟨[(deepF k).row], deep_row k, fun d h => by rw [List.map_cons, row_frzB, List.map_nil]⟩

theorem limits_law (z : Int) (h0 : 0 ≤ z) : Pure Tryd.prog 3 [.int .u8 z] (.bool true) := by
  refine Pure.of 0 (CallS.enter scriptinglaw33_ProtoLimits_ok (Nat.le_of_ble_eq_true rfl) (Run.go 6 ?_))
  simp -implicitDefEqProofs only [go_sem, pN, qN, cN, dN, initSl]
  refine Run.wk (.freeze (b := cN) (st := 0) (sz := 5) (rs := [insR]) (sl' := [(4, .ptr qN 2 0 0), (3, .ptr pN 1 0 0), (0, .int .u8 z)]) (h' := [(qN, 2, .rows 11 [oneR]), (pN, 1, .rows 11 [oneR])]) (by simp [insR]) ⟨.of (.refl _), .of (.refl _), .of (.refl _), trivial⟩ ?_) ?_
  · exact .at 0 rfl (by decide) (frz_row1 ⟨.of (.refl _), .of (.refl _), .of (.refl _), .of (.refl _), .of (.refl _), .all rfl, .of .nilI, .of .nilI, .of .nilI, .of .nilI, .of .nilI, trivial⟩)
      (.at 1 rfl (by decide) (frz_row1 ⟨.of (.refl _), .of (.refl _), .of (.refl _), .of (.refl _), .of (.refl _), .all rfl, .of .nilI, .of .nilI, .of .nilI, .of .nilI, .of .nilI, trivial⟩) trivial)
  have hm : z.tmod 5 = z % 5 := Int.tmod_eq_emod_of_nonneg h0
  have h5 : z % 5 = 0 ∨ z % 5 = 1 ∨ z % 5 = 2 ∨ z % 5 = 3 ∨ z % 5 = 4 := by omega
  refine Run.go 100 ?_
  rcases h5 with h | h | h | h | h
  · rw [h] at hm
    simp -implicitDefEqProofs only [go_sem, pN, qN, cN, dN, hm]
    refine Run.roundsK (fun (x : Nat × Nat) => ⟨[(5, .int .i64 ((x.1 + 1 : Nat) : Int)), (4, .ptr qN 2 0 0), (3, .ptr pN 1 0 0)], [(pN, 1, .rows 11 [(deepF x.1).row]), (qN, 2, .rows 11 [oneR])], x.2⟩)
      (fun x => x.1 ≤ 63) (fun x => 63 - x.1) (0, 3) ?_ (by decide) ?_
    · exact .turn id ⟨.refl _, .refl _, .refl _, trivial⟩ (.at 1 rfl rfl (.of_eq (by rw [deep_row0])) (.at 0 rfl rfl (.refl _) trivial))
    rintro ⟨k, m⟩ hk ih
    dsimp only at hk ih ⊢
    refine Run.unf scriptinglaw33_ProtoLimits_l0_eq (Run.go 100 ?_)
    obtain ⟨ps, hps, hfz⟩ := deep_rowX k
    have hd := deep_row k
    by_cases c : ((k + 1 : Nat) : Int) < 64
    · have fin := fun s' hw' => ih s' (k + 1, m + 1) (by dsimp only; omega) (by dsimp only; omega) hw'
      dsimp only at fin
      rw [hd] at fin
      rw [hps] at fin ⊢
      clear ih hd
      simp -implicitDefEqProofs only [go_sem, pN, qN, cN, dN, c, plR, insR]
      refine ⟨⟨by omega, by omega⟩, fin _ (.freeze (b := dN) (st := m) (sz := 11) (rs := [plR [] 0 [] [] ps]) (List.mem_cons_of_mem _ List.mem_cons_self) ⟨.of (.refl _), .of (.refl _), .of (.refl _), trivial⟩ ?_)⟩
      exact .at 0 rfl (by decide) (frz_row1 ⟨.of (.refl _), .of (.refl _), .of (.refl _), .of (.refl _), .of (.refl _), .of (.refl _), .of .nilI, .of .nilI, .all rfl, .of .nilI, .of .nilI, trivial⟩) (.at 2 rfl (by decide) (.of (.refl _)) trivial)
    · obtain rfl : k = 63 := by omega
      clear ih hd
      have hc1 := deep_check (k := 63) (by decide)
      have hc2 := deep_checkX
      rw [hps] at hc1 hc2 ⊢
      simp -implicitDefEqProofs only [go_sem, pN, qN, cN, dN, c, plR, insR, oneR]
      refine CallS.view hc1 3 (by simp -implicitDefEqProofs only [go_sem, pN, qN, cN, dN, plR, insR, hfz]) rfl ?_
      simp -implicitDefEqProofs only [go_sem, pN, qN, cN, dN]
      refine CallS.view hc2 3 (by simp -implicitDefEqProofs only [go_sem, pN, qN, cN, dN, plR, insR, hfz]) rfl ?_
      simp -implicitDefEqProofs only [go_sem, pN, qN, cN, dN]
      refine CallS.pureF lives_pure (by simp -implicitDefEqProofs only [go_sem, pN, qN, cN, dN]) ?_
      simp -implicitDefEqProofs only [go_sem, pN, qN, cN, dN]
  · rw [h] at hm
    simp -implicitDefEqProofs only [go_sem, pN, qN, cN, dN, hm, oneR, insR]
    refine CallS.view (plain_check (name := []) (regs := 0) (c := 4096) (u := 0) (by decide) (by decide) (by decide) (by decide) (by decide)) 3 (by simp -implicitDefEqProofs only [go_sem, pN, qN, cN, dN, plR, insR, kR, uR, List.replicate_zero, List.length_replicate, List.take_replicate, List.drop_zero, List.map_replicate, Nat.min_self]) rfl ?_
    simp -implicitDefEqProofs only [go_sem, pN, qN, cN, dN]
    refine CallS.view (plain_checkX (name := []) (regs := 0) (c := 4097) (u := 0) (by decide) (by decide) (by decide)) 3 (by simp -implicitDefEqProofs only [go_sem, pN, qN, cN, dN, plR, insR, kR, uR, List.replicate_zero, List.length_replicate, List.take_replicate, List.drop_zero, List.map_replicate, Nat.min_self]) rfl ?_
    simp -implicitDefEqProofs only [go_sem, pN, qN, cN, dN]
    refine CallS.pureF lives_pure (by simp -implicitDefEqProofs only [go_sem, pN, qN, cN, dN]) ?_
    simp -implicitDefEqProofs only [go_sem, pN, qN, cN, dN]
  · rw [h] at hm
    simp -implicitDefEqProofs only [go_sem, pN, qN, cN, dN, hm, oneR, insR]
    refine CallS.view (plain_check (name := []) (regs := 0) (c := 0) (u := 60) (by decide) (by decide) (by decide) (by decide) (by decide)) 3 (by simp -implicitDefEqProofs only [go_sem, pN, qN, cN, dN, plR, insR, kR, uR, List.replicate_zero, List.length_replicate, List.take_replicate, List.drop_zero, List.map_replicate, Nat.min_self]) rfl ?_
    simp -implicitDefEqProofs only [go_sem, pN, qN, cN, dN]
    refine CallS.view (plain_checkX (name := []) (regs := 0) (c := 0) (u := 61) (by decide) (by decide) (by decide)) 3 (by simp -implicitDefEqProofs only [go_sem, pN, qN, cN, dN, plR, insR, kR, uR, List.replicate_zero, List.length_replicate, List.take_replicate, List.drop_zero, List.map_replicate, Nat.min_self]) rfl ?_
    simp -implicitDefEqProofs only [go_sem, pN, qN, cN, dN]
    refine CallS.pureF lives_pure (by simp -implicitDefEqProofs only [go_sem, pN, qN, cN, dN]) ?_
    simp -implicitDefEqProofs only [go_sem, pN, qN, cN, dN]
  · rw [h] at hm
    simp -implicitDefEqProofs only [go_sem, pN, qN, cN, dN, hm, oneR, insR]
    refine CallS.view (plain_check (name := []) (regs := 4096) (c := 0) (u := 0) (by decide) (by decide) (by decide) (by decide) (by decide)) 3 (by simp -implicitDefEqProofs only [go_sem, pN, qN, cN, dN, plR, insR, List.replicate_zero]) rfl ?_
    simp -implicitDefEqProofs only [go_sem, pN, qN, cN, dN]
    refine CallS.view (plain_checkX (name := []) (regs := 4097) (c := 0) (u := 0) (by decide) (by decide) (by decide)) 3 (by simp -implicitDefEqProofs only [go_sem, pN, qN, cN, dN, plR, insR, List.replicate_zero]) rfl ?_
    simp -implicitDefEqProofs only [go_sem, pN, qN, cN, dN]
    refine CallS.pureF lives_pure (by simp -implicitDefEqProofs only [go_sem, pN, qN, cN, dN]) ?_
    simp -implicitDefEqProofs only [go_sem, pN, qN, cN, dN]
  · rw [h] at hm
    simp -implicitDefEqProofs only [go_sem, pN, qN, cN, dN, hm, oneR, insR]
    refine CallS.pureF (repeat_pure 4096 (by decide)) (by simp -implicitDefEqProofs only [go_sem, pN, qN, cN, dN]) ?_
    simp -implicitDefEqProofs only [go_sem, pN, qN, cN, dN]
    refine CallS.pureF (repeat_pure 4097 (by decide)) (by simp -implicitDefEqProofs only [go_sem, pN, qN, cN, dN]) ?_
    simp -implicitDefEqProofs only [go_sem, pN, qN, cN, dN]
    refine CallS.view (plain_check (name := List.replicate 4096 110) (regs := 0) (c := 0) (u := 0) (by rw [List.length_replicate]; decide) (by decide) (by decide) (by decide) (by decide)) 3 (by simp -implicitDefEqProofs only [go_sem, pN, qN, cN, dN, plR, insR, List.replicate_zero]) rfl ?_
    simp -implicitDefEqProofs only [go_sem, pN, qN, cN, dN]
    refine CallS.view (plain_checkX (name := List.replicate 4097 110) (regs := 0) (c := 0) (u := 0) (by decide) (by decide) (by rw [List.length_replicate]; decide)) 3 (by simp -implicitDefEqProofs only [go_sem, pN, qN, cN, dN, plR, insR, List.replicate_zero]) rfl ?_
    simp -implicitDefEqProofs only [go_sem, pN, qN, cN, dN]
    refine CallS.pureF lives_pure (by simp -implicitDefEqProofs only [go_sem, pN, qN, cN, dN]) ?_
    simp -implicitDefEqProofs only [go_sem, pN, qN, cN, dN]

theorem protoLimits_args (n : Int) (hn : (Lit.int .u8 n).wf = true) : Pure Tryd.prog 3 [.int .u8 n] (.bool true) := by
  refine limits_law n ?_
  simp only [Lit.wf, Bool.and_eq_true, decide_eq_true_eq] at hn
  have e1 : IntKind.min .u8 = 0 := by decide
  omega
end Go.Proofs.YtcleahokjbeapaaDoor
