/-
  PeepholeRanges. No condition.
-/
import Derived.Test.YtkibfcnieamdoaaGreatDoorPeF
import Derived.Test.YtkibfcnieamdoaaGreatDoorPeL
import Derived.Test.YtkibfcnieamdoaaGreatDoorPeK
import Derived.Test.YtkibfcnieamdoaaGreatDoorPeW
set_option linter.unusedVariables false
set_option linter.unusedSimpArgs false
set_option maxRecDepth 100000
set_option maxHeartbeats 0
namespace Go.Proofs.YtkibfcnieamdoaaGreatDoor
open Go.Abs
attribute [local irreducible] CallS Run
theorem ranges_law (p : Fn) (hp : p.bd) : Pure Tryz.prog 3 [.agg p.row] (.bool true) := by
  have hl := large_pureP p hp
  have aw := awake_pure
  obtain ⟨h1, h2⟩ := fn_row11 p
  have hs := Fn.row_sub lost p
  refine Pure.of 0 (CallS.enter scriptinglaw41_PeepholeRanges_ok (Nat.le_of_ble_eq_true rfl) (Run.go 100 ?_))
  cases hb : p.lgB with
  | true =>
    rw [hb] at hl
    generalize p.row = pr at *
    simp -implicitDefEqProofs only [go_sem, initSl, h1, h2]
    refine CallS.pureF hl (by simp -implicitDefEqProofs only [go_sem, hs]) ?_
    simp -implicitDefEqProofs only [go_sem]
    refine CallS.pureF aw rfl ?_
    simp -implicitDefEqProofs only [go_sem]
  | false =>
    rw [hb] at hl
    have ht := lg_tot hb
    have hte := tot_each p
    have hd : p.depth ≤ 1000000 := by have := Fn.depth_each p; omega
    have hck := pcheck_pure p hp hd
    by_cases hc : chkE p = 0
    · rw [hc] at hck
      have hg : GoodF p := ⟨hp, ((chkE_iff p).1 hc).2, fun q hq => by have := hte.2 q hq; omega⟩
      have dd := dead_of p (eachF deadF p) (each_pure _ rfl deadF GoodF (fun p h q hq => h.child hq) GoodF.hb (fun p h => h.dead) p hg)
      have mm := moves_of p (eachF movesF p) (each_pure _ rfl movesF GoodF (fun p h q hq => h.child hq) GoodF.hb (fun p h => h.moves) p hg)
      have r1 := ranges_pure _ p hg.deadR hp.self.lines hp.self.vars
      have r2 := ranges_pure _ p hg.movesR hp.self.lines hp.self.vars
      have s1 := Fn.row_sub lost (eachF deadF p)
      have s2 := Fn.row_sub lost (eachF movesF p)
      generalize (eachF deadF p).row = d1 at *
      generalize (eachF movesF p).row = d2 at *
      generalize p.row = pr at *
      simp -implicitDefEqProofs only [go_sem, initSl, h1, h2]
      refine CallS.pureF hl (by simp -implicitDefEqProofs only [go_sem, hs]) ?_
      simp -implicitDefEqProofs only [go_sem, h1, h2]
      refine CallS.pureF hck (by simp -implicitDefEqProofs only [go_sem, hs]) ?_
      simp -implicitDefEqProofs only [go_sem, h1, h2]
      refine ⟨?_, ?_, ?_, ?_⟩
      all_goals
        refine CallS.pureF dd (by simp -implicitDefEqProofs only [go_sem, hs]) ?_
        simp -implicitDefEqProofs only [go_sem, h1, h2]
        refine CallS.pureF r1 (by simp -implicitDefEqProofs only [go_sem, hs, s1]) ?_
        simp -implicitDefEqProofs only [go_sem, h1, h2]
        refine CallS.pureF mm (by simp -implicitDefEqProofs only [go_sem, hs]) ?_
        simp -implicitDefEqProofs only [go_sem, h1, h2]
        refine CallS.pureF r2 (by simp -implicitDefEqProofs only [go_sem, hs, s2]) ?_
        simp -implicitDefEqProofs only [go_sem, h1, h2]
        refine CallS.pureF aw rfl ?_
        simp -implicitDefEqProofs only [go_sem]
    · have hc0 := eq_false hc
      generalize chkE p = ce at *
      generalize p.row = pr at *
      simp -implicitDefEqProofs only [go_sem, initSl, h1, h2]
      refine CallS.pureF hl (by simp -implicitDefEqProofs only [go_sem, hs]) ?_
      simp -implicitDefEqProofs only [go_sem, h1, h2]
      refine CallS.pureF hck (by simp -implicitDefEqProofs only [go_sem, hs]) ?_
      simp -implicitDefEqProofs only [go_sem, hc0]
      refine CallS.pureF aw rfl ?_
      simp -implicitDefEqProofs only [go_sem]
theorem peepholeRanges_args (cs : List V) (w : Typed Tryz.prog 29 cs) : Pure Tryz.prog 3 [.agg cs] (.bool true) := by
  obtain ⟨p, rfl, _, hb⟩ := fn_argsB w
  exact ranges_law p hb
end Go.Proofs.YtkibfcnieamdoaaGreatDoor
