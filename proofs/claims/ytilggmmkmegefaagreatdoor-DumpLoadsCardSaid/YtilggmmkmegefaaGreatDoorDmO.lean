/-
 DumpLoads: Load answers what Get and the verifier answer. No condition.
-/
import Derived.Test.YtilggmmkmegefaaGreatDoorDmGV
import Derived.Test.YtilggmmkmegefaaGreatDoorDmPS
import Derived.Test.YtilggmmkmegefaaGreatDoorVerB
import Derived.Test.YtilggmmkmegefaaGreatDoorFnQS
import Derived.Test.YtilggmmkmegefaaGreatDoorFnSW
set_option linter.unusedVariables false
set_option linter.unusedSimpArgs false
set_option maxRecDepth 100000
set_option maxHeartbeats 0
namespace Go.Proofs.YtilggmmkmegefaaGreatDoor
open Go Go.Abs
attribute [local irreducible] A4 C3 Run
theorem A8y (p : Fn) : (B4V p).length = (A6z p).length + 9 := by
 unfold B4V B5v
 simp [le4]
noncomputable def P5 : Except Int Fn → V
 | .error e => .tup [O4, .int .i64 e]
 | .ok p => if B2j p = 0 then .tup [.agg p.row, .int .i64 0] else .tup [O4, .int .i64 (B2j p)]
theorem B0p {BR : List (List V)} (hU : BR.map (fun r => r.map (V.sub J2)) = BR) {G : Except Int Fn} (hg : Pure Tryz.prog 6 [.isl BR] (A9l G)) (hnz : ∀ e, G = .error e → e ≠ 0) (hp : ∀ p, G = .ok p → p.bd ∧ p.depth ≤ 900) :
  Pure Tryz.prog 7 [.isl BR] (P5 G) := by
 refine Pure.of 0 (A4.enterK A8r (Nat.le_of_ble_eq_true rfl) fun Q hQ => Run.go 100 ?_)
 simp -implicitDefEqProofs only [go_sem, B3]
 refine A4.pureF hg (by simp -implicitDefEqProofs only [go_sem, hU]) ?_
 cases G with
 | error e =>
  have he := hnz e rfl
  simp -implicitDefEqProofs only [go_sem, A9l, O4, he]
  subst hQ
  exact .is rfl
 | ok p =>
  obtain ⟨h1, h2⟩ := hp p rfl
  have hv := A5T p h1 h2
  have hps := Fn.row_sub J2 p
  obtain ⟨g1, g2⟩ := C5 p
  simp -implicitDefEqProofs only [go_sem, A9l, g1, g2]
  refine A4.pureF hv (by simp -implicitDefEqProofs only [go_sem, hps]) ?_
  by_cases cv : B2j p = 0
  ·rw [show P5 (.ok p) = .tup [.agg p.row, .int .i64 0] from if_pos cv] at hQ
   simp -implicitDefEqProofs only [go_sem, cv, g1, g2]
   subst hQ
   exact .is (by simp -implicitDefEqProofs only [go_sem, Fn.row_frz'])
  ·rw [show P5 (.ok p) = .tup [O4, .int .i64 (B2j p)] from if_neg cv] at hQ
   simp -implicitDefEqProofs only [go_sem, cv, g1, g2]
   subst hQ
   exact .is rfl
theorem B0H (zs : List Int) (lz : zs.length ≤ reachBytes) (wz : ∀ z ∈ zs, (Lit.int .u8 z).wf = true) (sb : Bool) : Pure Tryz.prog 3 [.isl (zs.map fun z => [.int .u8 z]), .bool sb] (.bool true) := by
 have aw := B7n
 have hB0 : M6 zs := C1X wz
 rw [show (zs.map fun z => [V.int .u8 z]) = byR zs from rfl]
 have hR := T8 zs
 refine Pure.of 0 (A4.enter O5 (Nat.le_of_ble_eq_true rfl) (Run.go 100 ?_))
 by_cases c : (100000 : Int) < zs.length
 ·simp -implicitDefEqProofs only [go_sem, B3, hR, c]
  refine A4.pureF aw rfl ?_
  simp -implicitDefEqProofs only [go_sem]
 have hg : G6 zs := ⟨hB0, by omega⟩
 have hgs : G6 (zs ++ le4 (R8 zs)) := ⟨hB0.app C9R, by simp [le4]; omega⟩
 have hlen : zs.length ≤ 100000 := by omega
 have hse := B5l zs (by omega)
 cases sb
 ·simp -implicitDefEqProofs only [go_sem, B3, hR, c]
  have hMs := A3K (zs)
  rcases Nat.lt_or_ge (zs).length 9 with h9 | h9
  ·have hs : Pure Tryz.prog 6 [.isl (byR (zs))] (A9l (.error 5)) := B2H _ h9
   have hl := B0p hMs hs (fun e h => by cases h; decide) fun p h => by cases h
   refine A4.pureF hs (by simp -implicitDefEqProofs only [go_sem, hMs]) ?_
   simp -implicitDefEqProofs only [go_sem, A9l, O4]
   refine A4.pureF hl (by simp -implicitDefEqProofs only [go_sem, hMs]) ?_
   simp -implicitDefEqProofs only [go_sem, P5, O4]
   refine A4.pureF aw rfl ?_
   simp -implicitDefEqProofs only [go_sem]
  obtain ⟨L, a, b, cc, d, eM, h5, hgL, hB⟩ := C0K hg h9
  rw [eM] at hMs ⊢
  have hget := B5h L a b cc d h5 hgL
  have hok := fun p h => @B8E L a b cc d p hgL hB h
  have hl := B0p hMs hget (fun e h => B0w h) fun p h => ⟨(hok p h).2.2.1, Nat.le_trans ((A2u p).1 (hok p h).2.1).1 (by decide)⟩
  refine A4.pureF hget (by simp -implicitDefEqProofs only [go_sem, hMs]) ?_
  cases hG : B1I L a b cc d with
  | error e =>
   have he := B0w hG
   rw [hG] at hl
   simp -implicitDefEqProofs only [go_sem, A9l, O4]
   refine A4.pureF hl (by simp -implicitDefEqProofs only [go_sem, hMs]) ?_
   simp -implicitDefEqProofs only [go_sem, P5, O4, he]
   refine A4.pureF aw rfl ?_
   simp -implicitDefEqProofs only [go_sem]
  | ok p =>
   obtain ⟨e1, e2, e3, e4, e5⟩ := hok p hG
   have hd64 := ((A2u p).1 e2).1
   have hv := A5T p e3 (by omega)
   have hec := B3l p
   have hLz := congrArg List.length eM
   simp [le4] at hLz
   have hsm := B1d p p e3 e3 (by have := congrArg List.length e1; rw [A8y] at this; simp at this; omega) (by have := congrArg List.length e1; rw [A8y] at this; simp at this; omega)
   rw [A9j rfl] at hsm
   rw [hG] at hl
   have hps := Fn.row_sub J2 p
   obtain ⟨g1, g2⟩ := C5 p
   simp -implicitDefEqProofs only [go_sem, A9l, g1, g2]
   refine A4.pureF hl (by simp -implicitDefEqProofs only [go_sem, hMs]) ?_
   by_cases cv : B2j p = 0
   ·rw [show P5 (.ok p) = .tup [.agg p.row, .int .i64 0] from if_pos cv]
    rw [cv] at hv
    simp -implicitDefEqProofs only [go_sem, g1, g2]
    refine A4.pureF hv (by simp -implicitDefEqProofs only [go_sem, hps]) ?_
    simp -implicitDefEqProofs only [go_sem, g1, g2]
    refine A4.pureF hsm (by simp -implicitDefEqProofs only [go_sem, hps]) ?_
    simp -implicitDefEqProofs only [go_sem]
    refine A4.pureF aw rfl ?_
    simp -implicitDefEqProofs only [go_sem]
   ·rw [show P5 (.ok p) = .tup [O4, .int .i64 (B2j p)] from if_neg cv]
    simp -implicitDefEqProofs only [go_sem, g1, g2, O4]
    refine A4.pureF hv (by simp -implicitDefEqProofs only [go_sem, hps]) ?_
    simp -implicitDefEqProofs only [go_sem, g1, g2, cv]
    refine A4.pureF aw rfl ?_
    simp -implicitDefEqProofs only [go_sem]
 ·simp -implicitDefEqProofs only [go_sem, B3, hR, c]
  refine A4.pureF hse (by simp -implicitDefEqProofs only [go_sem, A3K]) ?_
  simp -implicitDefEqProofs only [go_sem]
  have hMs := A3K (zs ++ le4 (R8 zs))
  rcases Nat.lt_or_ge (zs ++ le4 (R8 zs)).length 9 with h9 | h9
  ·have hs : Pure Tryz.prog 6 [.isl (byR (zs ++ le4 (R8 zs)))] (A9l (.error 5)) := B2H _ h9
   have hl := B0p hMs hs (fun e h => by cases h; decide) fun p h => by cases h
   refine A4.pureF hs (by simp -implicitDefEqProofs only [go_sem, hMs]) ?_
   simp -implicitDefEqProofs only [go_sem, A9l, O4]
   refine A4.pureF hl (by simp -implicitDefEqProofs only [go_sem, hMs]) ?_
   simp -implicitDefEqProofs only [go_sem, P5, O4]
   refine A4.pureF aw rfl ?_
   simp -implicitDefEqProofs only [go_sem]
  obtain ⟨L, a, b, cc, d, eM, h5, hgL, hB⟩ := C0K hgs h9
  rw [eM] at hMs ⊢
  have hget := B5h L a b cc d h5 hgL
  have hok := fun p h => @B8E L a b cc d p hgL hB h
  have hl := B0p hMs hget (fun e h => B0w h) fun p h => ⟨(hok p h).2.2.1, Nat.le_trans ((A2u p).1 (hok p h).2.1).1 (by decide)⟩
  refine A4.pureF hget (by simp -implicitDefEqProofs only [go_sem, hMs]) ?_
  cases hG : B1I L a b cc d with
  | error e =>
   have he := B0w hG
   rw [hG] at hl
   simp -implicitDefEqProofs only [go_sem, A9l, O4]
   refine A4.pureF hl (by simp -implicitDefEqProofs only [go_sem, hMs]) ?_
   simp -implicitDefEqProofs only [go_sem, P5, O4, he]
   refine A4.pureF aw rfl ?_
   simp -implicitDefEqProofs only [go_sem]
  | ok p =>
   obtain ⟨e1, e2, e3, e4, e5⟩ := hok p hG
   have hd64 := ((A2u p).1 e2).1
   have hv := A5T p e3 (by omega)
   have hec := B3l p
   have hLz := congrArg List.length eM
   simp [le4] at hLz
   have hsm := B1d p p e3 e3 (by have := congrArg List.length e1; rw [A8y] at this; simp at this; omega) (by have := congrArg List.length e1; rw [A8y] at this; simp at this; omega)
   rw [A9j rfl] at hsm
   rw [hG] at hl
   have hps := Fn.row_sub J2 p
   obtain ⟨g1, g2⟩ := C5 p
   simp -implicitDefEqProofs only [go_sem, A9l, g1, g2]
   refine A4.pureF hl (by simp -implicitDefEqProofs only [go_sem, hMs]) ?_
   by_cases cv : B2j p = 0
   ·rw [show P5 (.ok p) = .tup [.agg p.row, .int .i64 0] from if_pos cv]
    rw [cv] at hv
    simp -implicitDefEqProofs only [go_sem, g1, g2]
    refine A4.pureF hv (by simp -implicitDefEqProofs only [go_sem, hps]) ?_
    simp -implicitDefEqProofs only [go_sem, g1, g2]
    refine A4.pureF hsm (by simp -implicitDefEqProofs only [go_sem, hps]) ?_
    simp -implicitDefEqProofs only [go_sem]
    refine A4.pureF aw rfl ?_
    simp -implicitDefEqProofs only [go_sem]
   ·rw [show P5 (.ok p) = .tup [O4, .int .i64 (B2j p)] from if_neg cv]
    simp -implicitDefEqProofs only [go_sem, g1, g2, O4]
    refine A4.pureF hv (by simp -implicitDefEqProofs only [go_sem, hps]) ?_
    simp -implicitDefEqProofs only [go_sem, g1, g2, cv]
    refine A4.pureF aw rfl ?_
    simp -implicitDefEqProofs only [go_sem]
end Go.Proofs.YtilggmmkmegefaaGreatDoor
