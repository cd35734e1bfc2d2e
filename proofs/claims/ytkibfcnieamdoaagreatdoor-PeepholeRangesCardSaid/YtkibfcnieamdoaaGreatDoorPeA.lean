/-
  The law's own examples: what each function answers on them, by running it. No condition.
-/
import Derived.Test.YtkibfcnieamdoaaGreatDoorPeD
import Derived.Test.YtkibfcnieamdoaaGreatDoorPeE
import Derived.Test.YtkibfcnieamdoaaGreatDoorPeM
import Derived.Test.YtkibfcnieamdoaaGreatDoorOpcM
set_option linter.unusedVariables false
set_option linter.unusedSimpArgs false
set_option maxRecDepth 1000000
set_option maxHeartbeats 0
namespace Go.Proofs.YtkibfcnieamdoaaGreatDoor
open Go.Abs
attribute [local irreducible] CallS Run
def codF (l : List Ins) : Fn := ⟨[], 0, 0, false, 2, l, [], [], [], [], []⟩
def i5 (a b c d e : Int) : List V := [.int .i64 a, .int .i64 b, .int .i64 c, .int .i64 d, .int .i64 e]
def codR (l : List (List V)) : List V := [.str [], .int .i64 0, .int .i64 0, .bool false, .int .i64 2, .isl l, .isl [], .isl [], .isl [], .isl [], .isl []]
theorem cod_row (l : List Ins) : (codF l).row = codR (l.map Ins.row) := by rw [Fn.row_eq]; rfl
def stI : Ins := ⟨29, 0, 0, 0, 0⟩
def reI : Ins := ⟨18, 0, 0, 0, 0⟩
def aF : Fn := codF [⟨14, 0, 2, 0, 0⟩, stI, ⟨14, 0, 1, 0, 0⟩]
def bF : Fn := codF [⟨1, 1, 1, 0, 0⟩, stI, reI]
def cF : Fn := codF [reI, stI, reI]
def c1F : Fn := codF [reI]
def stR : List V := i5 29 0 0 0 0
def reR : List V := i5 18 0 0 0 0
def libOf (T : List (FuncId × List V × V)) (lib : Caller) : Caller := fun f xs h n => find f xs h n T
where
  find (f : FuncId) (xs : List V) (h : Heap) (n : Nat) : List (FuncId × List V × V) → Outs
    | [] => lib f xs h n
    | e :: r => bif Nat.beq e.1 f && V.beqL e.2.1 xs then oneO e.2.2 h n else find f xs h n r
theorem libOf_ok {T : List (FuncId × List V × V)} {lib : Caller} (hT : ∀ e ∈ T, Abs.Pure Tryz.prog e.1 e.2.1 e.2.2 ∧ e.2.1.map (V.sub lost) = e.2.1) (hl : CallerOK Tryz.prog lib) : CallerOK Tryz.prog (libOf T lib) := by
  intro f xs h n k hg
  have key : ∀ T' : List (FuncId × List V × V), (∀ e ∈ T', e ∈ T) → Go.Abs.Good (libOf.find lib f xs h n T') k → CallS Tryz.prog f xs h n k := by
    intro T'
    induction T' with
    | nil => exact fun _ hg => hl f xs h n k hg
    | cons e r ih =>
      intro hm hg
      simp only [libOf.find] at hg
      cases hb : Nat.beq e.1 f && V.beqL e.2.1 xs with
      | false => rw [hb] at hg; exact ih (fun x hx => hm x (List.mem_cons_of_mem _ hx)) hg
      | true =>
        rw [hb, cond_true] at hg
        rw [Bool.and_eq_true] at hb
        obtain ⟨h1, h2⟩ := hT e (hm e List.mem_cons_self)
        rw [← Nat.eq_of_beq_eq_true hb.1, ← V.beqL_eq hb.2]
        exact CallS.pure h1 h2 hg.one
  exact key T (fun _ h => h) hg
theorem nx0 : Abs.Pure Tryz.prog 40 [.agg (codR [reR, stR, reR]), .int .i64 0] (.isl []) := by
  have h := next_pure [reI, stI, reI] 0 (by decide) (.str []) (.int .i64 0) (.int .i64 0) (.bool false) (.int .i64 2) (.isl []) (.isl []) (.isl []) (.isl []) (.isl [])
  rwa [show nextL [reI, stI, reI] 0 = [] by decide +kernel] at h
theorem nx1 : Abs.Pure Tryz.prog 40 [.agg (codR [reR, stR, reR]), .int .i64 1] (.isl [[.int .i64 2]]) := by
  have h := next_pure [reI, stI, reI] 1 (by decide) (.str []) (.int .i64 0) (.int .i64 0) (.bool false) (.int .i64 2) (.isl []) (.isl []) (.isl []) (.isl []) (.isl [])
  rwa [show nextL [reI, stI, reI] 1 = [2] by decide +kernel] at h
theorem nx2 : Abs.Pure Tryz.prog 40 [.agg (codR [reR, stR, reR]), .int .i64 2] (.isl []) := by
  have h := next_pure [reI, stI, reI] 2 (by decide) (.str []) (.int .i64 0) (.int .i64 0) (.bool false) (.int .i64 2) (.isl []) (.isl []) (.isl []) (.isl []) (.isl [])
  rwa [show nextL [reI, stI, reI] 2 = [] by decide +kernel] at h
theorem nx3 : Abs.Pure Tryz.prog 40 [.agg (codR [reR]), .int .i64 0] (.isl []) := by
  have h := next_pure [reI] 0 (by decide) (.str []) (.int .i64 0) (.int .i64 0) (.bool false) (.int .i64 2) (.isl []) (.isl []) (.isl []) (.isl []) (.isl [])
  rwa [show nextL [reI] 0 = [] by decide +kernel] at h
def libN : Caller := libOf [
  (40, [.agg (codR [reR, stR, reR]), .int .i64 0], .isl []),
  (40, [.agg (codR [reR, stR, reR]), .int .i64 1], .isl [[.int .i64 2]]),
  (40, [.agg (codR [reR, stR, reR]), .int .i64 2], .isl []),
  (40, [.agg (codR [reR]), .int .i64 0], .isl [])] libF
theorem libN_ok : CallerOK Tryz.prog libN := libOf_ok (fun e he => by
  simp only [List.mem_cons, List.not_mem_nil, or_false] at he
  rcases he with rfl | rfl | rfl | rfl
  · exact ⟨nx0, rfl⟩
  · exact ⟨nx1, rfl⟩
  · exact ⟨nx2, rfl⟩
  · exact ⟨nx3, rfl⟩) libF_ok
theorem search_c : Abs.Pure Tryz.prog 92 [.agg (codR [reR, stR, reR]), .isl []] (.tup [.isl [], .int .i64 0, .bool false]) :=
  Pure.execB (m := 20000) (d := 20) (fr := 1) exT_ok libN_ok (by kernel_rfl)
theorem jmp_a : Abs.Pure Tryz.prog 34 [.agg (codR [i5 14 0 2 0 0, stR, i5 14 0 1 0 0])] (.agg (codR [i5 14 0 1 0 0, stR, i5 14 0 1 0 0])) :=
  Pure.execB (m := 20000) (d := 20) (fr := 1) exT_ok libF_ok (by kernel_rfl)
theorem jmp_c : Abs.Pure Tryz.prog 34 [.agg (codR [reR, stR, reR])] (.agg (codR [reR, stR, reR])) :=
  Pure.execB (m := 20000) (d := 20) (fr := 1) exT_ok libF_ok (by kernel_rfl)
theorem jmp_c1 : Abs.Pure Tryz.prog 34 [.agg (codR [reR])] (.agg (codR [reR])) :=
  Pure.execB (m := 20000) (d := 20) (fr := 1) exT_ok libF_ok (by kernel_rfl)
theorem dead_c : Abs.Pure Tryz.prog 18 [.agg (codR [reR, stR, reR])] (.agg (codR [reR])) :=
  Pure.execB (m := 20000) (d := 20) (fr := 1) exT_ok libN_ok (by kernel_rfl)
theorem dead_c1 : Abs.Pure Tryz.prog 18 [.agg (codR [reR])] (.agg (codR [reR])) :=
  Pure.execB (m := 20000) (d := 20) (fr := 1) exT_ok libN_ok (by kernel_rfl)
theorem same_no : Abs.Pure Tryz.prog 38 [.agg (codR [reR, stR, reR]), .agg (codR [reR])] (.bool false) :=
  Pure.execB (m := 20000) (d := 20) (fr := 1) exT_ok libF_ok (by kernel_rfl)
theorem same_yes : Abs.Pure Tryz.prog 38 [.agg (codR [reR]), .agg (codR [reR])] (.bool true) :=
  Pure.execB (m := 20000) (d := 20) (fr := 1) exT_ok libF_ok (by kernel_rfl)
theorem cod_each (l : List Ins) : (codF l).each = [codF l] := by rw [Fn.each_eq]; rfl
theorem cod_bd (l : List Ins) (h : l.length ≤ 10) : (codF l).bd := by
  intro q hq
  rw [cod_each] at hq
  obtain rfl := List.mem_singleton.1 hq
  exact ⟨by show l.length ≤ _; omega, Nat.zero_le _, Nat.zero_le _, Nat.zero_le _, Nat.zero_le _, Nat.zero_le _⟩
theorem cod_alone (l : List Ins) : aloneF (codF l) = codF l := rfl
theorem cod_depth (l : List Ins) : (codF l).depth ≤ 1000000 := by rw [Fn.depth_eq, show (codF l).protos = [] from rfl, Fn.depths]; decide
theorem chk_a : chkE aF = 0 := by decide +kernel
theorem chk_b : chkE bF = 0 := by decide +kernel
theorem chk_c : chkE cF = 0 := by decide +kernel
theorem chk_c1 : chkE c1F = 0 := by decide +kernel
theorem each_one (f : FuncId) (hf : hasBody Tryz.prog f = true) (l l2 : List Ins) (hl : l.length ≤ 10) (hc : chkE (codF l) = 0) (h : Abs.Pure Tryz.prog f [.agg (codF l).row] (.agg (codF l2).row)) :
    Abs.Pure Tryz.prog 17 [.agg (codF l).row, .fn f []] (.agg (codF l2).row) := by
  have := each_pure f hf (fun _ => codF l2) (fun p => p = codF l) (fun p hp q hq => by subst hp; cases hq) (fun p hp => by
    subst hp
    exact ⟨Nat.zero_le _, (fun q hq => by cases hq), by rw [cod_alone]; exact cod_bd l hl, by rw [cod_alone]; exact cod_depth l⟩) (fun p hp => by subst hp; exact h) (codF l) rfl
  rw [eachF_eq, cod_alone, if_pos hc] at this
  exact this
theorem jumps_of {l l2 : List Ins} (h : Abs.Pure Tryz.prog 17 [.agg (codF l).row, .fn 34 []] (.agg (codF l2).row)) : Abs.Pure Tryz.prog 14 [.agg (codR (l.map Ins.row))] (.agg (codR (l2.map Ins.row))) := by
  rw [cod_row, cod_row] at h
  have hs := Fn.row_sub lost (codF l)
  have hs2 := Fn.row_sub lost (codF l2)
  rw [cod_row] at hs hs2
  refine Pure.of 0 (CallS.enter peephole_Jumps_ok (Nat.le_of_ble_eq_true rfl) (Run.go 100 ?_))
  generalize hr : codR (l.map Ins.row) = r at *
  generalize hr2 : codR (l2.map Ins.row) = r2 at *
  have o1 : r.length = 11 := by rw [← hr]; rfl
  have o2 : r.take 11 = r := by rw [← hr]; rfl
  have o3 : r2.length = 11 := by rw [← hr2]; rfl
  have o4 : r2.take 11 = r2 := by rw [← hr2]; rfl
  simp -implicitDefEqProofs only [go_sem, initSl, o1, o2]
  refine CallS.pureF h (by simp -implicitDefEqProofs only [go_sem, hs]) ?_
  simp -implicitDefEqProofs only [go_sem, o1, o2, o3, o4, Nat.reduceDiv]
  exact hs2
theorem jumps_a : Abs.Pure Tryz.prog 14 [.agg (codR [i5 14 0 2 0 0, stR, i5 14 0 1 0 0])] (.agg (codR [i5 14 0 1 0 0, stR, i5 14 0 1 0 0])) :=
  jumps_of (l := [⟨14, 0, 2, 0, 0⟩, stI, ⟨14, 0, 1, 0, 0⟩]) (l2 := [⟨14, 0, 1, 0, 0⟩, stI, ⟨14, 0, 1, 0, 0⟩]) (each_one _ rfl _ _ (by decide) chk_a (by rw [cod_row, cod_row]; exact jmp_a))
theorem jumps_c : Abs.Pure Tryz.prog 14 [.agg (codR [reR, stR, reR])] (.agg (codR [reR, stR, reR])) :=
  jumps_of (l := [reI, stI, reI]) (l2 := [reI, stI, reI]) (each_one _ rfl _ _ (by decide) chk_c (by rw [cod_row]; exact jmp_c))
theorem jumps_c1 : Abs.Pure Tryz.prog 14 [.agg (codR [reR])] (.agg (codR [reR])) :=
  jumps_of (l := [reI]) (l2 := [reI]) (each_one _ rfl _ _ (by decide) chk_c1 (by rw [cod_row]; exact jmp_c1))
theorem dead_of (p q : Fn) (h : Abs.Pure Tryz.prog 17 [.agg p.row, .fn 18 []] (.agg q.row)) : Abs.Pure Tryz.prog 8 [.agg p.row] (.agg q.row) := by
  have hs := Fn.row_sub lost p
  have hs2 := Fn.row_sub lost q
  obtain ⟨o1, o2⟩ := fn_row11 p
  obtain ⟨o3, o4⟩ := fn_row11 q
  refine Pure.of 0 (CallS.enter peephole_Dead_ok (Nat.le_of_ble_eq_true rfl) (Run.go 100 ?_))
  generalize p.row = r at *
  generalize q.row = r2 at *
  simp -implicitDefEqProofs only [go_sem, initSl, o1, o2]
  refine CallS.pureF h (by simp -implicitDefEqProofs only [go_sem, hs]) ?_
  simp -implicitDefEqProofs only [go_sem, o1, o2, o3, o4, Nat.reduceDiv]
  exact hs2
theorem moves_of (p q : Fn) (h : Abs.Pure Tryz.prog 17 [.agg p.row, .fn 22 []] (.agg q.row)) : Abs.Pure Tryz.prog 9 [.agg p.row] (.agg q.row) := by
  have hs := Fn.row_sub lost p
  have hs2 := Fn.row_sub lost q
  obtain ⟨o1, o2⟩ := fn_row11 p
  obtain ⟨o3, o4⟩ := fn_row11 q
  refine Pure.of 0 (CallS.enter peephole_Moves_ok (Nat.le_of_ble_eq_true rfl) (Run.go 100 ?_))
  generalize p.row = r at *
  generalize q.row = r2 at *
  simp -implicitDefEqProofs only [go_sem, initSl, o1, o2]
  refine CallS.pureF h (by simp -implicitDefEqProofs only [go_sem, hs]) ?_
  simp -implicitDefEqProofs only [go_sem, o1, o2, o3, o4, Nat.reduceDiv]
  exact hs2
theorem dead_cP : Abs.Pure Tryz.prog 8 [.agg (codR [reR, stR, reR])] (.agg (codR [reR])) := by
  have h := dead_of _ _ (each_one _ rfl [reI, stI, reI] [reI] (by decide) chk_c (by rw [cod_row, cod_row]; exact dead_c))
  rw [cod_row, cod_row] at h
  exact h
theorem dead_c1P : Abs.Pure Tryz.prog 8 [.agg (codR [reR])] (.agg (codR [reR])) := by
  have h := dead_of _ _ (each_one _ rfl [reI] [reI] (by decide) chk_c1 (by rw [cod_row]; exact dead_c1))
  rw [cod_row] at h
  exact h
theorem mv_b : Abs.Pure Tryz.prog 22 [.agg bF.row] (.agg (codF [stI, reI]).row) := by
  have h := moves_pure bF ⟨by decide, .inr rfl, by decide, (fun v hv => by cases hv), by decide⟩ (by decide) (cod_bd _ (by decide)) (fun q hq => by cases hq) (by decide) (by decide) (by decide)
  have g0 : goneM bF 0 = true := by
    unfold goneM
    rw [show bF.code[0]? = some ⟨1, 1, 1, 0, 0⟩ from rfl]
    simp [show quietF bF.code 0 = true by decide]
  have g1 : goneM bF 1 = false := by unfold goneM; rw [show bF.code[1]? = some stI from rfl]; simp [stI]
  have g2 : goneM bF 2 = false := by unfold goneM; rw [show bF.code[2]? = some reI from rfl]; simp [reI]
  have e : movesF bF = codF [stI, reI] := by
    unfold movesF removeF
    have hc : keepN (goneM bF) bF.code bF.code.length = [stI, reI] := by
      show keepN (goneM bF) [⟨1, 1, 1, 0, 0⟩, stI, reI] 3 = _
      simp [keepN, g0, g1, g2]
    rw [hc]
    rfl
  rwa [e] at h
theorem mv_c1 : Abs.Pure Tryz.prog 22 [.agg c1F.row] (.agg c1F.row) := by
  have h := moves_pure c1F ⟨by decide, .inr rfl, by decide, (fun v hv => by cases hv), by decide⟩ (by decide) (cod_bd _ (by decide)) (fun q hq => by cases hq) (by decide) (by decide) (by decide)
  have g0 : goneM c1F 0 = false := by unfold goneM; rw [show c1F.code[0]? = some reI from rfl]; simp [reI]
  have e : movesF c1F = c1F := by
    unfold movesF removeF
    have hc : keepN (goneM c1F) c1F.code c1F.code.length = [reI] := by
      show keepN (goneM c1F) [reI] 1 = _
      simp [keepN, g0]
    rw [hc]
    rfl
  rwa [e] at h
theorem moves_bP : Abs.Pure Tryz.prog 9 [.agg (codR [i5 1 1 1 0 0, stR, reR])] (.agg (codR [stR, reR])) := by
  have h := moves_of _ _ (each_one _ rfl [⟨1, 1, 1, 0, 0⟩, stI, reI] [stI, reI] (by decide) chk_b mv_b)
  rw [cod_row, cod_row] at h
  exact h
theorem moves_c1P : Abs.Pure Tryz.prog 9 [.agg (codR [reR])] (.agg (codR [reR])) := by
  have h := moves_of _ _ (each_one _ rfl [reI] [reI] (by decide) chk_c1 mv_c1)
  rw [cod_row] at h
  exact h
def zeroF : Fn := ⟨[], 0, 0, false, 0, [], [], [], [], [], []⟩
def zeroR : List V := [.str [], .int .i64 0, .int .i64 0, .bool false, .int .i64 0, .isl [], .isl [], .isl [], .isl [], .isl [], .isl []]
theorem zero_row : zeroF.row = zeroR := by rw [Fn.row_eq]; rfl
theorem zero_bd : zeroF.bd := by
  intro q hq
  rw [Fn.each_eq] at hq
  obtain rfl : q = zeroF := by simpa [zeroF, Fn.eachs] using hq
  exact ⟨Nat.zero_le _, Nat.zero_le _, Nat.zero_le _, Nat.zero_le _, Nat.zero_le _, Nat.zero_le _⟩
theorem check_c : Abs.Pure Tryz.prog 5 [.agg (codR [reR, stR, reR])] (.int .i64 0) := by
  have h := pcheck_pure cF (cod_bd _ (by decide)) (cod_depth _)
  rw [chk_c] at h
  unfold cF at h
  rw [cod_row] at h
  exact h
theorem check_z : Abs.Pure Tryz.prog 5 [.agg zeroR] (.int .i64 4) := by
  have h := pcheck_pure zeroF zero_bd (by decide +kernel)
  rw [show chkE zeroF = 4 by decide +kernel, zero_row] at h
  exact h
theorem explain_c : Abs.Pure Tryz.prog 68 [.agg (codR [reR, stR, reR])] (.tup [.isl [], .int .i64 0, .int .i64 0]) := by
  refine Pure.of 0 (CallS.enter verify_Explain_ok (Nat.le_of_ble_eq_true rfl) (Run.go 100 ?_))
  have hs : (codR [reR, stR, reR]).map (V.sub lost) = codR [reR, stR, reR] := rfl
  have c1 := check_c
  have c2 := search_c
  have o1 : (codR [reR, stR, reR]).length = 11 := rfl
  have o2 : (codR [reR, stR, reR]).take 11 = codR [reR, stR, reR] := rfl
  generalize codR [reR, stR, reR] = r at *
  simp -implicitDefEqProofs only [go_sem, initSl, o1, o2]
  refine CallS.pureF c1 (by simp -implicitDefEqProofs only [go_sem, hs]) ?_
  simp -implicitDefEqProofs only [go_sem, o1, o2]
  refine CallS.pure c2 (by simp -implicitDefEqProofs only [go_sem, hs]) ?_
  simp -implicitDefEqProofs only [go_sem, o1, o2]
def libV : Caller := libOf [
  (5, [.agg (codR [reR, stR, reR])], .int .i64 0),
  (5, [.agg zeroR], .int .i64 4),
  (68, [.agg (codR [reR, stR, reR])], .tup [.isl [], .int .i64 0, .int .i64 0]),
  (14, [.agg (codR [reR, stR, reR])], .agg (codR [reR, stR, reR])),
  (14, [.agg (codR [reR])], .agg (codR [reR])),
  (8, [.agg (codR [reR, stR, reR])], .agg (codR [reR])),
  (8, [.agg (codR [reR])], .agg (codR [reR])),
  (9, [.agg (codR [reR])], .agg (codR [reR])),
  (38, [.agg (codR [reR, stR, reR]), .agg (codR [reR])], .bool false),
  (38, [.agg (codR [reR]), .agg (codR [reR])], .bool true)] noLib
theorem libV_ok : CallerOK Tryz.prog libV := libOf_ok (fun e he => by
  simp only [List.mem_cons, List.not_mem_nil, or_false] at he
  rcases he with rfl | rfl | rfl | rfl | rfl | rfl | rfl | rfl | rfl | rfl
  · exact ⟨check_c, rfl⟩
  · exact ⟨check_z, rfl⟩
  · exact ⟨explain_c, rfl⟩
  · exact ⟨jumps_c, rfl⟩
  · exact ⟨jumps_c1, rfl⟩
  · exact ⟨dead_cP, rfl⟩
  · exact ⟨dead_c1P, rfl⟩
  · exact ⟨moves_c1P, rfl⟩
  · exact ⟨same_no, rfl⟩
  · exact ⟨same_yes, rfl⟩) noLib_ok
theorem proto_c : Abs.Pure Tryz.prog 16 [.agg (codR [reR, stR, reR])] (.tup [.agg (codR [reR]), .int .i64 0]) :=
  Pure.execB (m := 20000) (d := 20) (fr := 1) exT_ok libV_ok (by kernel_rfl)
theorem proto_z : Abs.Pure Tryz.prog 16 [.agg zeroR] (.tup [.agg zeroR, .int .i64 4]) :=
  Pure.execB (m := 20000) (d := 20) (fr := 1) exT_ok libV_ok (by kernel_rfl)
end Go.Proofs.YtkibfcnieamdoaaGreatDoor
