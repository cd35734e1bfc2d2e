/-
 The law's own examples: what each function answers on them, by running it. No condition.
-/
import Derived.Test.YtfkfphpnijkdlaaGreatDoorPeDL
import Derived.Test.YtfkfphpnijkdlaaGreatDoorPeE
import Derived.Test.YtfkfphpnijkdlaaGreatDoorPuU
import Derived.Test.YtfkfphpnijkdlaaGreatDoorFlowN
import Derived.Test.YtfkfphpnijkdlaaGreatDoorOpcM
set_option linter.unusedVariables false
set_option linter.unusedSimpArgs false
set_option maxRecDepth 1000000
set_option maxHeartbeats 0
namespace Go.Proofs.YtfkfphpnijkdlaaGreatDoor
open Go.Abs
attribute [local irreducible] CallS Run
def codF (l : List Ins) : Fn := ⟨[], 0, 0, false, 2, l, [], [], [], [], []⟩
def i5 (a b c d e : Int) : List V := [.int .i64 a, .int .i64 b, .int .i64 c, .int .i64 d, .int .i64 e]
def codR (l : List (List V)) : List V := [.str [], .int .i64 0, .int .i64 0, .bool false, .int .i64 2, .isl l, .isl [], .isl [], .isl [], .isl [], .isl []]
theorem cod_row (l : List Ins) : (codF l).row = codR (l.map Ins.row) := by rw [Fn.row_eq]; rfl
def stI : Ins := ⟨29, 0, 0, 0, 0⟩
def reI : Ins := ⟨18, 0, 0, 0, 0⟩
def aF : Fn := codF [⟨14, 0, 2, 0, 0⟩, stI, ⟨14, 0, 1, 0, 0⟩]
def bF : Fn := codF [⟨1, 1, 1, 0, 0⟩, stI, reI]
def cF : Fn := codF [reI, stI, reI]
def c1F : Fn := codF [reI]
def stR : List V := i5 29 0 0 0 0
def reR : List V := i5 18 0 0 0 0
def libOf (T : List (FuncId × List V × V)) (lib : Caller) : Caller := fun f xs h n => find f xs h n T
where
 find (f : FuncId) (xs : List V) (h : Heap) (n : Nat) : List (FuncId × List V × V) → Outs
  | [] => lib f xs h n
  | e :: r => bif Nat.beq e.1 f && V.beqL e.2.1 xs then oneO e.2.2 h n else find f xs h n r
theorem libOf_ok {T : List (FuncId × List V × V)} {lib : Caller} (hT : ∀ e ∈ T, Abs.Pure Tryz.prog e.1 e.2.1 e.2.2 ∧ e.2.1.map (V.sub lost) = e.2.1) (hl : CallerOK Tryz.prog lib) : CallerOK Tryz.prog (libOf T lib) := by
 intro f xs h n k hg
 have key : ∀ T' : List (FuncId × List V × V), (∀ e ∈ T', e ∈ T) → Go.Abs.Good (libOf.find lib f xs h n T') k → CallS Tryz.prog f xs h n k := by
  intro T'
  induction T' with
  | nil => exact fun _ hg => hl f xs h n k hg
  | cons e r ih =>
   intro hm hg
   simp only [libOf.find] at hg
   cases hb : Nat.beq e.1 f && V.beqL e.2.1 xs with
   | false => rw [hb] at hg; exact ih (fun x hx => hm x (List.mem_cons_of_mem _ hx)) hg
   | true =>
    rw [hb, cond_true] at hg
    rw [Bool.and_eq_true] at hb
    obtain ⟨h1, h2⟩ := hT e (hm e List.mem_cons_self)
    rw [← Nat.eq_of_beq_eq_true hb.1, ← V.beqL_eq hb.2]
    exact CallS.pure h1 h2 hg.one
 exact key T (fun _ h => h) hg
theorem nx0 : Abs.Pure Tryz.prog 34 [.agg (codR [reR, stR, reR]), .int .i64 0] (.isl []) := by
 have h := next_pure [reI, stI, reI] 0 (by decide) (.str []) (.int .i64 0) (.int .i64 0) (.bool false) (.int .i64 2) (.isl []) (.isl []) (.isl []) (.isl []) (.isl [])
 rwa [show nextL [reI, stI, reI] 0 = [] by decide +kernel] at h
theorem nx1 : Abs.Pure Tryz.prog 34 [.agg (codR [reR, stR, reR]), .int .i64 1] (.isl [[.int .i64 2]]) := by
 have h := next_pure [reI, stI, reI] 1 (by decide) (.str []) (.int .i64 0) (.int .i64 0) (.bool false) (.int .i64 2) (.isl []) (.isl []) (.isl []) (.isl []) (.isl [])
 rwa [show nextL [reI, stI, reI] 1 = [2] by decide +kernel] at h
theorem nx2 : Abs.Pure Tryz.prog 34 [.agg (codR [reR, stR, reR]), .int .i64 2] (.isl []) := by
 have h := next_pure [reI, stI, reI] 2 (by decide) (.str []) (.int .i64 0) (.int .i64 0) (.bool false) (.int .i64 2) (.isl []) (.isl []) (.isl []) (.isl []) (.isl [])
 rwa [show nextL [reI, stI, reI] 2 = [] by decide +kernel] at h
theorem nx3 : Abs.Pure Tryz.prog 34 [.agg (codR [reR]), .int .i64 0] (.isl []) := by
 have h := next_pure [reI] 0 (by decide) (.str []) (.int .i64 0) (.int .i64 0) (.bool false) (.int .i64 2) (.isl []) (.isl []) (.isl []) (.isl []) (.isl [])
 rwa [show nextL [reI] 0 = [] by decide +kernel] at h
def libN : Caller := libOf [
 (34, [.agg (codR [reR, stR, reR]), .int .i64 0], .isl []),
 (34, [.agg (codR [reR, stR, reR]), .int .i64 1], .isl [[.int .i64 2]]),
 (34, [.agg (codR [reR, stR, reR]), .int .i64 2], .isl []),
 (34, [.agg (codR [reR]), .int .i64 0], .isl [])] libF
theorem libN_ok : CallerOK Tryz.prog libN := libOf_ok (fun e he => by
 simp only [List.mem_cons, List.not_mem_nil, or_false] at he
 rcases he with rfl | rfl | rfl | rfl
 ·exact ⟨nx0, rfl⟩
 ·exact ⟨nx1, rfl⟩
 ·exact ⟨nx2, rfl⟩
 ·exact ⟨nx3, rfl⟩) libF_ok
theorem search_c : Abs.Pure Tryz.prog 25 [.agg (codR [reR, stR, reR]), .isl []] (.tup [.isl [], .int .i64 0, .bool false]) :=
 Pure.execB (m := 20000) (d := 20) (fr := 1) exT_ok libN_ok (by kernel_rfl)
theorem jmp_a : Abs.Pure Tryz.prog 18 [.agg (codR [i5 14 0 2 0 0, stR, i5 14 0 1 0 0])] (.agg (codR [i5 14 0 1 0 0, stR, i5 14 0 1 0 0])) :=
 Pure.execB (m := 20000) (d := 20) (fr := 1) exT_ok libF_ok (by kernel_rfl)
theorem jmp_c : Abs.Pure Tryz.prog 18 [.agg (codR [reR, stR, reR])] (.agg (codR [reR, stR, reR])) :=
 Pure.execB (m := 20000) (d := 20) (fr := 1) exT_ok libF_ok (by kernel_rfl)
theorem jmp_c1 : Abs.Pure Tryz.prog 18 [.agg (codR [reR])] (.agg (codR [reR])) :=
 Pure.execB (m := 20000) (d := 20) (fr := 1) exT_ok libF_ok (by kernel_rfl)
theorem dead_c : Abs.Pure Tryz.prog 20 [.agg (codR [reR, stR, reR])] (.agg (codR [reR])) :=
 Pure.execB (m := 20000) (d := 20) (fr := 1) exT_ok libN_ok (by kernel_rfl)
theorem dead_c1 : Abs.Pure Tryz.prog 20 [.agg (codR [reR])] (.agg (codR [reR])) :=
 Pure.execB (m := 20000) (d := 20) (fr := 1) exT_ok libN_ok (by kernel_rfl)
theorem same_no : Abs.Pure Tryz.prog 32 [.agg (codR [reR, stR, reR]), .agg (codR [reR])] (.bool false) :=
 Pure.execB (m := 20000) (d := 20) (fr := 1) exT_ok libF_ok (by kernel_rfl)
theorem same_yes : Abs.Pure Tryz.prog 32 [.agg (codR [reR]), .agg (codR [reR])] (.bool true) :=
 Pure.execB (m := 20000) (d := 20) (fr := 1) exT_ok libF_ok (by kernel_rfl)
theorem cod_each (l : List Ins) : (codF l).each = [codF l] := by rw [Fn.each_eq]; rfl
theorem cod_bd (l : List Ins) (h : l.length ≤ 10) : (codF l).bd := by
 intro q hq
 rw [cod_each] at hq
 obtain rfl := List.mem_singleton.1 hq
 exact ⟨by show l.length ≤ _; omega, Nat.zero_le _, Nat.zero_le _, Nat.zero_le _, Nat.zero_le _, Nat.zero_le _⟩
theorem cod_alone (l : List Ins) : aloneF (codF l) = codF l := rfl
theorem cod_depth (l : List Ins) : (codF l).depth ≤ 1000000 := by rw [Fn.depth_eq, show (codF l).protos = [] from rfl, Fn.depths]; decide
theorem chk_a : chkE aF = 0 := by decide +kernel
theorem chk_b : chkE bF = 0 := by decide +kernel
theorem chk_c : chkE cF = 0 := by decide +kernel
theorem chk_c1 : chkE c1F = 0 := by decide +kernel
theorem each_one (f : FuncId) (hf : hasBody Tryz.prog f = true) (l l2 : List Ins) (hl : l.length ≤ 10) (hc : chkE (codF l) = 0) (h : Abs.Pure Tryz.prog f [.agg (codF l).row] (.agg (codF l2).row)) :
  Abs.Pure Tryz.prog 17 [.agg (codF l).row, .fn f []] (.agg (codF l2).row) := by
 have := each_pure f hf (fun _ => codF l2) (fun p => p = codF l) (fun p hp q hq => by subst hp; cases hq) (fun p hp => by
  subst hp
  exact ⟨Nat.zero_le _, (fun q hq => by cases hq), by rw [cod_alone]; exact cod_bd l hl, by rw [cod_alone]; exact cod_depth l⟩) (fun p hp => by subst hp; exact h) (codF l) rfl
 rw [eachF_eq, cod_alone, if_pos hc] at this
 exact this
theorem jumps_of {l l2 : List Ins} (h : Abs.Pure Tryz.prog 17 [.agg (codF l).row, .fn 18 []] (.agg (codF l2).row)) : Abs.Pure Tryz.prog 8 [.agg (codR (l.map Ins.row))] (.agg (codR (l2.map Ins.row))) := by
 rw [cod_row, cod_row] at h
 have hs := Fn.row_sub lost (codF l)
 have hs2 := Fn.row_sub lost (codF l2)
 rw [cod_row] at hs hs2
 refine Pure.of 0 (CallS.enter peephole_Jumps_ok (Nat.le_of_ble_eq_true rfl) (Run.go 100 ?_))
 generalize hr : codR (l.map Ins.row) = r at *
 generalize hr2 : codR (l2.map Ins.row) = r2 at *
 have o1 : r.length = 11 := by rw [← hr]; rfl
 have o2 : r.take 11 = r := by rw [← hr]; rfl
 have o3 : r2.length = 11 := by rw [← hr2]; rfl
 have o4 : r2.take 11 = r2 := by rw [← hr2]; rfl
 simp -implicitDefEqProofs only [go_sem, initSl, o1, o2]
 refine CallS.pureF h (by simp -implicitDefEqProofs only [go_sem, hs]) ?_
 simp -implicitDefEqProofs only [go_sem, o1, o2, o3, o4, Nat.reduceDiv]
 exact hs2
theorem jumps_a : Abs.Pure Tryz.prog 8 [.agg (codR [i5 14 0 2 0 0, stR, i5 14 0 1 0 0])] (.agg (codR [i5 14 0 1 0 0, stR, i5 14 0 1 0 0])) :=
 jumps_of (l := [⟨14, 0, 2, 0, 0⟩, stI, ⟨14, 0, 1, 0, 0⟩]) (l2 := [⟨14, 0, 1, 0, 0⟩, stI, ⟨14, 0, 1, 0, 0⟩]) (each_one _ rfl _ _ (by decide) chk_a (by rw [cod_row, cod_row]; exact jmp_a))
theorem jumps_c : Abs.Pure Tryz.prog 8 [.agg (codR [reR, stR, reR])] (.agg (codR [reR, stR, reR])) :=
 jumps_of (l := [reI, stI, reI]) (l2 := [reI, stI, reI]) (each_one _ rfl _ _ (by decide) chk_c (by rw [cod_row]; exact jmp_c))
theorem jumps_c1 : Abs.Pure Tryz.prog 8 [.agg (codR [reR])] (.agg (codR [reR])) :=
 jumps_of (l := [reI]) (l2 := [reI]) (each_one _ rfl _ _ (by decide) chk_c1 (by rw [cod_row]; exact jmp_c1))
theorem dead_of (p q : Fn) (h : Abs.Pure Tryz.prog 17 [.agg p.row, .fn 20 []] (.agg q.row)) : Abs.Pure Tryz.prog 9 [.agg p.row] (.agg q.row) := by
 have hs := Fn.row_sub lost p
 have hs2 := Fn.row_sub lost q
 obtain ⟨o1, o2⟩ := fn_row11 p
 obtain ⟨o3, o4⟩ := fn_row11 q
 refine Pure.of 0 (CallS.enter peephole_Dead_ok (Nat.le_of_ble_eq_true rfl) (Run.go 100 ?_))
 generalize p.row = r at *
 generalize q.row = r2 at *
 simp -implicitDefEqProofs only [go_sem, initSl, o1, o2]
 refine CallS.pureF h (by simp -implicitDefEqProofs only [go_sem, hs]) ?_
 simp -implicitDefEqProofs only [go_sem, o1, o2, o3, o4, Nat.reduceDiv]
 exact hs2
theorem moves_of (p q : Fn) (h : Abs.Pure Tryz.prog 17 [.agg p.row, .fn 26 []] (.agg q.row)) : Abs.Pure Tryz.prog 13 [.agg p.row] (.agg q.row) := by
 have hs := Fn.row_sub lost p
 have hs2 := Fn.row_sub lost q
 obtain ⟨o1, o2⟩ := fn_row11 p
 obtain ⟨o3, o4⟩ := fn_row11 q
 refine Pure.of 0 (CallS.enter peephole_Moves_ok (Nat.le_of_ble_eq_true rfl) (Run.go 100 ?_))
 generalize p.row = r at *
 generalize q.row = r2 at *
 simp -implicitDefEqProofs only [go_sem, initSl, o1, o2]
 refine CallS.pureF h (by simp -implicitDefEqProofs only [go_sem, hs]) ?_
 simp -implicitDefEqProofs only [go_sem, o1, o2, o3, o4, Nat.reduceDiv]
 exact hs2
theorem dead_cP : Abs.Pure Tryz.prog 9 [.agg (codR [reR, stR, reR])] (.agg (codR [reR])) := by
 have h := dead_of _ _ (each_one _ rfl [reI, stI, reI] [reI] (by decide) chk_c (by rw [cod_row, cod_row]; exact dead_c))
 rw [cod_row, cod_row] at h
 exact h
theorem dead_c1P : Abs.Pure Tryz.prog 9 [.agg (codR [reR])] (.agg (codR [reR])) := by
 have h := dead_of _ _ (each_one _ rfl [reI] [reI] (by decide) chk_c1 (by rw [cod_row]; exact dead_c1))
 rw [cod_row] at h
 exact h
def mvR : List V := i5 1 1 1 0 0
def bP : Pro := ⟨[], 0, 0, false, 2, [⟨1, 1, 1, 0, 0⟩, stI, reI], [], [], [], [], []⟩
theorem bP_row : bP.row = codR [mvR, stR, reR] := by rw [Pro.row_eq]; rfl
theorem bP_sub : bP.row.map (V.sub lost) = bP.row := by rw [bP_row]; rfl
def rowZ : List V := rowF fun _ => false
def rowO : List V := rowF fun r => decide (r = 1)
theorem regB : regN bP.regs = 2 := by decide
theorem putZ : putB 2 [] (-1) (fun _ => false) = fun _ => false := by
 funext r
 unfold putB
 have h1 : ¬ (0 ≤ (-1 : Int) ∧ (-1 : Int) ≤ r) := by omega
 simp
theorem putO : putB 2 [1] (-1) (fun _ => false) = fun r => decide (r = 1) := by
 funext r
 unfold putB
 have h1 : ¬ (0 ≤ (-1 : Int) ∧ (-1 : Int) ≤ r) := by omega
 by_cases c : r = 1
 ·subst c; simp
 ·have : ¬ (r : Int) = 1 := by omega
  simp [c, this]
theorem rdM : reads ⟨1, 1, 1, 0, 0⟩ = ([1], -1) := by decide +kernel
theorem rdS : reads stI = ([], -1) := by decide +kernel
theorem rdR : reads reI = ([], -1) := by decide +kernel
theorem wrM : writes ⟨1, 1, 1, 0, 0⟩ = ([1], -1) := by decide +kernel
theorem wrS : writes stI = ([], -1) := by decide +kernel
theorem usM : Abs.Pure Tryz.prog 41 [.agg (codR [mvR, stR, reR]), .agg mvR] (.iptr [rowO] 0 0) := by
 have h := uses_pure bP ⟨1, 1, 1, 0, 0⟩ bP_sub (fun q hq => by cases hq)
 have e : usesB bP ⟨1, 1, 1, 0, 0⟩ = fun r => decide (r = 1) := by
  unfold usesB
  rw [rdM, regB]
  simp only [Int.reduceEq, false_and, if_false]
  exact putO
 rwa [e, bP_row] at h
theorem usS : Abs.Pure Tryz.prog 41 [.agg (codR [mvR, stR, reR]), .agg stR] (.iptr [rowZ] 0 0) := by
 have h := uses_pure bP stI bP_sub (fun q hq => by cases hq)
 have e : usesB bP stI = fun _ => false := by
  unfold usesB
  rw [rdS, regB]
  simp only [show stI.op = 29 from rfl, Int.reduceEq, false_and, if_false]
  exact putZ
 rwa [e, bP_row] at h
theorem usR : Abs.Pure Tryz.prog 41 [.agg (codR [mvR, stR, reR]), .agg reR] (.iptr [rowZ] 0 0) := by
 have h := uses_pure bP reI bP_sub (fun q hq => by cases hq)
 have e : usesB bP reI = fun _ => false := by
  unfold usesB
  rw [rdR, regB]
  simp only [show reI.op = 18 from rfl, Int.reduceEq, false_and, if_false]
  exact putZ
 rwa [e, bP_row] at h
theorem dfM : Abs.Pure Tryz.prog 42 [.agg (codR [mvR, stR, reR]), .int .i64 0, .int .i64 1] (.iptr [rowO] 0 0) := by
 have h := defs_pure bP 0 1 (by decide) (by decide) bP_sub
 have e : defsB bP 0 1 = fun r => decide (r = 1) := by
  unfold defsB
  simp only [bP, List.getElem?_cons_zero]
  rw [wrM]
  exact putO
 rwa [e, bP_row] at h
theorem dfS : Abs.Pure Tryz.prog 42 [.agg (codR [mvR, stR, reR]), .int .i64 1, .int .i64 2] (.iptr [rowZ] 0 0) := by
 have h := defs_pure bP 1 2 (by decide) (by decide) bP_sub
 have e : defsB bP 1 2 = fun _ => false := by
  unfold defsB
  simp only [bP, List.getElem?_cons_zero, List.getElem?_cons_succ]
  rw [wrS]
  exact putZ
 rwa [e, bP_row] at h
theorem nb0 : Abs.Pure Tryz.prog 34 [.agg (codR [mvR, stR, reR]), .int .i64 0] (.isl [[.int .i64 1]]) := by
 have h := next_pure [⟨1, 1, 1, 0, 0⟩, stI, reI] 0 (by decide) (.str []) (.int .i64 0) (.int .i64 0) (.bool false) (.int .i64 2) (.isl []) (.isl []) (.isl []) (.isl []) (.isl [])
 rwa [show nextL [⟨1, 1, 1, 0, 0⟩, stI, reI] 0 = [1] by decide +kernel] at h
theorem nb1 : Abs.Pure Tryz.prog 34 [.agg (codR [mvR, stR, reR]), .int .i64 1] (.isl [[.int .i64 2]]) := by
 have h := next_pure [⟨1, 1, 1, 0, 0⟩, stI, reI] 1 (by decide) (.str []) (.int .i64 0) (.int .i64 0) (.bool false) (.int .i64 2) (.isl []) (.isl []) (.isl []) (.isl []) (.isl [])
 rwa [show nextL [⟨1, 1, 1, 0, 0⟩, stI, reI] 1 = [2] by decide +kernel] at h
theorem nb2 : Abs.Pure Tryz.prog 34 [.agg (codR [mvR, stR, reR]), .int .i64 2] (.isl []) := by
 have h := next_pure [⟨1, 1, 1, 0, 0⟩, stI, reI] 2 (by decide) (.str []) (.int .i64 0) (.int .i64 0) (.bool false) (.int .i64 2) (.isl []) (.isl []) (.isl []) (.isl []) (.isl [])
 rwa [show nextL [⟨1, 1, 1, 0, 0⟩, stI, reI] 2 = [] by decide +kernel] at h
def libM : Caller := libOf [
 (41, [.agg (codR [mvR, stR, reR]), .agg mvR], .iptr [rowO] 0 0),
 (41, [.agg (codR [mvR, stR, reR]), .agg stR], .iptr [rowZ] 0 0),
 (41, [.agg (codR [mvR, stR, reR]), .agg reR], .iptr [rowZ] 0 0),
 (42, [.agg (codR [mvR, stR, reR]), .int .i64 0, .int .i64 1], .iptr [rowO] 0 0),
 (42, [.agg (codR [mvR, stR, reR]), .int .i64 1, .int .i64 2], .iptr [rowZ] 0 0),
 (34, [.agg (codR [mvR, stR, reR]), .int .i64 0], .isl [[.int .i64 1]]),
 (34, [.agg (codR [mvR, stR, reR]), .int .i64 1], .isl [[.int .i64 2]]),
 (34, [.agg (codR [mvR, stR, reR]), .int .i64 2], .isl [])] libF
theorem libM_ok : CallerOK Tryz.prog libM := libOf_ok (fun e he => by
 simp only [List.mem_cons, List.not_mem_nil, or_false] at he
 rcases he with rfl | rfl | rfl | rfl | rfl | rfl | rfl | rfl
 ·exact ⟨usM, rfl⟩
 ·exact ⟨usS, rfl⟩
 ·exact ⟨usR, rfl⟩
 ·exact ⟨dfM, rfl⟩
 ·exact ⟨dfS, rfl⟩
 ·exact ⟨nb0, rfl⟩
 ·exact ⟨nb1, rfl⟩
 ·exact ⟨nb2, rfl⟩) libF_ok
theorem mv_b : Abs.Pure Tryz.prog 26 [.agg bF.row] (.agg (codF [stI, reI]).row) := by
 rw [show bF.row = codR [mvR, stR, reR] from cod_row _, cod_row]
 exact Pure.execB (m := 50000) (d := 30) (fr := 2) exT_ok libM_ok (by kernel_rfl)
theorem mv_c1 : Abs.Pure Tryz.prog 26 [.agg c1F.row] (.agg c1F.row) := by
 rw [show c1F.row = codR [reR] from cod_row _]
 exact Pure.execB (m := 50000) (d := 30) (fr := 2) exT_ok libN_ok (by kernel_rfl)
theorem moves_bP : Abs.Pure Tryz.prog 13 [.agg (codR [i5 1 1 1 0 0, stR, reR])] (.agg (codR [stR, reR])) := by
 have h := moves_of _ _ (each_one _ rfl [⟨1, 1, 1, 0, 0⟩, stI, reI] [stI, reI] (by decide) chk_b mv_b)
 rw [cod_row, cod_row] at h
 exact h
theorem moves_c1P : Abs.Pure Tryz.prog 13 [.agg (codR [reR])] (.agg (codR [reR])) := by
 have h := moves_of _ _ (each_one _ rfl [reI] [reI] (by decide) chk_c1 mv_c1)
 rw [cod_row] at h
 exact h
def zeroF : Fn := ⟨[], 0, 0, false, 0, [], [], [], [], [], []⟩
def zeroR : List V := [.str [], .int .i64 0, .int .i64 0, .bool false, .int .i64 0, .isl [], .isl [], .isl [], .isl [], .isl [], .isl []]
theorem zero_row : zeroF.row = zeroR := by rw [Fn.row_eq]; rfl
theorem zero_bd : zeroF.bd := by
 intro q hq
 rw [Fn.each_eq] at hq
 obtain rfl : q = zeroF := by simpa [zeroF, Fn.eachs] using hq
 exact ⟨Nat.zero_le _, Nat.zero_le _, Nat.zero_le _, Nat.zero_le _, Nat.zero_le _, Nat.zero_le _⟩
theorem check_c : Abs.Pure Tryz.prog 24 [.agg (codR [reR, stR, reR])] (.int .i64 0) := by
 have h := pcheck_pure cF (cod_bd _ (by decide)) (cod_depth _)
 rw [chk_c] at h
 unfold cF at h
 rw [cod_row] at h
 exact h
theorem check_z : Abs.Pure Tryz.prog 24 [.agg zeroR] (.int .i64 4) := by
 have h := pcheck_pure zeroF zero_bd (by decide +kernel)
 rw [show chkE zeroF = 4 by decide +kernel, zero_row] at h
 exact h
theorem explain_c : Abs.Pure Tryz.prog 11 [.agg (codR [reR, stR, reR])] (.tup [.isl [], .int .i64 0, .int .i64 0]) := by
 refine Pure.of 0 (CallS.enter verify_Explain_ok (Nat.le_of_ble_eq_true rfl) (Run.go 100 ?_))
 have hs : (codR [reR, stR, reR]).map (V.sub lost) = codR [reR, stR, reR] := rfl
 have c1 := check_c
 have c2 := search_c
 have o1 : (codR [reR, stR, reR]).length = 11 := rfl
 have o2 : (codR [reR, stR, reR]).take 11 = codR [reR, stR, reR] := rfl
 generalize codR [reR, stR, reR] = r at *
 simp -implicitDefEqProofs only [go_sem, initSl, o1, o2]
 refine CallS.pureF c1 (by simp -implicitDefEqProofs only [go_sem, hs]) ?_
 simp -implicitDefEqProofs only [go_sem, o1, o2]
 refine CallS.pure c2 (by simp -implicitDefEqProofs only [go_sem, hs]) ?_
 simp -implicitDefEqProofs only [go_sem, o1, o2]
def libV : Caller := libOf [
 (24, [.agg (codR [reR, stR, reR])], .int .i64 0),
 (24, [.agg zeroR], .int .i64 4),
 (11, [.agg (codR [reR, stR, reR])], .tup [.isl [], .int .i64 0, .int .i64 0]),
 (8, [.agg (codR [reR, stR, reR])], .agg (codR [reR, stR, reR])),
 (8, [.agg (codR [reR])], .agg (codR [reR])),
 (9, [.agg (codR [reR, stR, reR])], .agg (codR [reR])),
 (9, [.agg (codR [reR])], .agg (codR [reR])),
 (13, [.agg (codR [reR])], .agg (codR [reR])),
 (32, [.agg (codR [reR, stR, reR]), .agg (codR [reR])], .bool false),
 (32, [.agg (codR [reR]), .agg (codR [reR])], .bool true)] noLib
theorem libV_ok : CallerOK Tryz.prog libV := libOf_ok (fun e he => by
 simp only [List.mem_cons, List.not_mem_nil, or_false] at he
 rcases he with rfl | rfl | rfl | rfl | rfl | rfl | rfl | rfl | rfl | rfl
 ·exact ⟨check_c, rfl⟩
 ·exact ⟨check_z, rfl⟩
 ·exact ⟨explain_c, rfl⟩
 ·exact ⟨jumps_c, rfl⟩
 ·exact ⟨jumps_c1, rfl⟩
 ·exact ⟨dead_cP, rfl⟩
 ·exact ⟨dead_c1P, rfl⟩
 ·exact ⟨moves_c1P, rfl⟩
 ·exact ⟨same_no, rfl⟩
 ·exact ⟨same_yes, rfl⟩) noLib_ok
theorem proto_c : Abs.Pure Tryz.prog 14 [.agg (codR [reR, stR, reR])] (.tup [.agg (codR [reR]), .int .i64 0]) :=
 Pure.execB (m := 20000) (d := 20) (fr := 1) exT_ok libV_ok (by kernel_rfl)
theorem proto_z : Abs.Pure Tryz.prog 14 [.agg zeroR] (.tup [.agg zeroR, .int .i64 4]) :=
 Pure.execB (m := 20000) (d := 20) (fr := 1) exT_ok libV_ok (by kernel_rfl)
-- EV: stR, reR, i5, codR, zeroR
theorem code_call (l : List (List V)) (b st k : Nat) (hk : k = l.length) (rest : Heap) (hap : ∀ e ∈ rest, e.1 ≠ b ∧ e.1 / 10000 ≠ 12) (hb : b / 10000 ≠ 12) (n : Nat) :
  CallS Tryz.prog 12 [.sl b st 0 k] ((b, st, .rows 5 l) :: rest) n fun r h' _ => r = .agg (codR l) ∧ h' = rest := by
 subst hk
 refine CallS.enterK scriptinglaw41_code_ok (Nat.le_of_ble_eq_true rfl) fun Q hQ => Run.go 100 ?_
 have hd : Heap.del rest (12 * 10000 + 2) = rest := Apart.del fun e he h2 => (hap e he).2 (by rw [h2])
 have hb2 : (b = 12 * 10000 + 2) = False := eq_false fun h2 => hb (by rw [h2])
 simp only [Nat.reduceMul, Nat.reduceAdd] at hd hb2
 simp -implicitDefEqProofs only [go_sem, stR, reR, i5, codR, zeroR, initSl, hd, hb2]
 subst hQ
 exact Post.to (r2 := .agg (codR l)) (h2 := rest) ⟨rfl, rfl⟩ (Wk.trans (b := ⟨[(0, .agg [.str [], .int .i64 0, .int .i64 0, .bool false, .int .i64 2, .isl l, .nils, .nils, .nils, .nils, .nils])], rest, n + 1⟩)
  (.freeze (b := b) (st := st) (sz := 5) (rs := l) (by simp) ⟨Frz.agg ⟨.of (.refl _), .of (.refl _), .of (.refl _), .of (.refl _), .of (.refl _), Frz.all rfl, .of (.refl _), .of (.refl _), .of (.refl _), .of (.refl _), .of (.refl _), trivial⟩, trivial⟩ (FrzH.of fun e he => ⟨by simp [he], (hap e he).1⟩))
  (.turn id ⟨SameV.agg ⟨.refl _, .refl _, .refl _, .refl _, .refl _, .refl _, .nilI, .nilI, .nilI, .nilI, .nilI, trivial⟩, trivial⟩ (.of fun e he => ⟨e, he, rfl, rfl, .refl _⟩)))
theorem awake_pure : Pure Tryz.prog 6 [] (.bool true) := by
 refine Pure.of 0 (CallS.enter scriptinglaw41_awake_ok (Nat.le_of_ble_eq_true rfl) (Run.go 100 ?_))
 simp -implicitDefEqProofs only [go_sem, stR, reR, i5, codR, zeroR, initSl]
 refine (code_call _ _ _ 3 ?_ _ ?_ ?_ _).mono ?_
 ·rfl
 ·simp
 ·decide
 rintro r h' n' ⟨rfl, rfl⟩
 simp -implicitDefEqProofs only [go_sem, stR, reR, i5, codR, zeroR]
 refine CallS.pureF jumps_a rfl ?_
 simp -implicitDefEqProofs only [go_sem, stR, reR, i5, codR, zeroR]
 refine (code_call _ _ _ 3 ?_ _ ?_ ?_ _).mono ?_
 ·rfl
 ·simp
 ·decide
 rintro r h' n' ⟨rfl, rfl⟩
 simp -implicitDefEqProofs only [go_sem, stR, reR, i5, codR, zeroR]
 refine CallS.pureF moves_bP rfl ?_
 simp -implicitDefEqProofs only [go_sem, stR, reR, i5, codR, zeroR]
 refine (code_call _ _ _ 3 ?_ _ ?_ ?_ _).mono ?_
 ·rfl
 ·simp
 ·decide
 rintro r h' n' ⟨rfl, rfl⟩
 simp -implicitDefEqProofs only [go_sem, stR, reR, i5, codR, zeroR]
 refine CallS.pureF dead_cP rfl ?_
 simp -implicitDefEqProofs only [go_sem, stR, reR, i5, codR, zeroR]
 refine (code_call _ _ _ 3 ?_ _ ?_ ?_ _).mono ?_
 ·rfl
 ·simp
 ·decide
 rintro r h' n' ⟨rfl, rfl⟩
 simp -implicitDefEqProofs only [go_sem, stR, reR, i5, codR, zeroR]
 refine CallS.pureF proto_c rfl ?_
 simp -implicitDefEqProofs only [go_sem, stR, reR, i5, codR, zeroR]
 refine CallS.view proto_z 1 rfl rfl ?_
 simp -implicitDefEqProofs only [go_sem, stR, reR, i5, codR, zeroR]
 done
end Go.Proofs.YtfkfphpnijkdlaaGreatDoor
