/-
  Registry: the chapter's small case; references are given out again in the stated order. No condition.
-/
import Derived.Test.YtlmmmplgogbjgaaReg
import Derived.Test.YtlmmmplgogbjgaaArg
set_option linter.unusedVariables false
set_option linter.unusedSimpArgs false
set_option maxRecDepth 100000
set_option maxHeartbeats 0
namespace Go.Proofs.Ytlmmmplgogbjgaa
open Go.Abs
attribute [local irreducible] CallS Run
-- EV: RegH, nO, nM, nV, nF, nL, Val.v, Val.row, irow

def tv : Val := ⟨4, 0, 0, [], 7⟩

theorem lives_pure : Pure Try.prog 6 [] (.bool true) := by
  refine Pure.of 0 (CallS.enter scriptinglaw18_lives_ok (Nat.le_of_ble_eq_true rfl) (Run.go 100 ?_))
  have v0 : Reg.OK ⟨[], [], []⟩ := .new
  have e1 : Reg.ref ⟨[], [], []⟩ tv = (1, 0, ⟨[tv], [], []⟩) := rfl
  have e2 : Reg.ref ⟨[tv], [], []⟩ tv = (2, 0, ⟨[tv, tv], [], []⟩) := rfl
  have e3 : Reg.ref ⟨[tv, tv], [], []⟩ tv = (3, 0, ⟨[tv, tv, tv], [], []⟩) := rfl
  have e4 : Reg.unref ⟨[tv, tv, tv], [], []⟩ 1 = (0, ⟨[Val.none, tv, tv], [1], []⟩) := rfl
  have e5 : Reg.unref ⟨[Val.none, tv, tv], [1], []⟩ 2 = (0, ⟨[Val.none, Val.none, tv], [1, 2], []⟩) := rfl
  have e6 : Reg.ref ⟨[Val.none, Val.none, tv], [1, 2], []⟩ tv = (2, 0, ⟨[Val.none, tv, tv], [1], []⟩) := rfl
  have e7 : Reg.ref ⟨[Val.none, tv, tv], [1], []⟩ tv = (1, 0, ⟨[tv, tv, tv], [], []⟩) := rfl
  have v1 := v0.ref tv; rw [e1] at v1
  have v2 := v1.ref tv; rw [e2] at v2
  have v3 := v2.ref tv; rw [e3] at v3
  have v4 := v3.unref 1; rw [e4] at v4
  have v5 := v4.unref 2; rw [e5] at v5
  have v6 := v5.ref tv; rw [e6] at v6
  have v7 := v6.ref tv; rw [e7] at v7
  simp -implicitDefEqProofs only [go_sem, RegH, nO, nM, nV, nF, nL, Val.v, Val.row, irow, initSl]
  refine (new_c _).mono ?_
  rintro r h' n' ⟨so, sm, sv, sf, rfl, rfl⟩
  simp -implicitDefEqProofs only [go_sem, RegH, nO, nM, nV, nF, nL, Val.v, Val.row, irow]
  refine CallS.at [1, 2, 3, 4] [0] (ref_c ⟨[], [], []⟩ so sm sv sf _ tv v0) rfl rfl ?_
  rintro r h' n' hn ⟨sv, sf, rfl, rfl⟩
  simp -implicitDefEqProofs only [go_sem, RegH, nO, nM, nV, nF, nL, Val.v, Val.row, irow, e1]
  refine CallS.at [0, 1, 2, 3] [4] (ref_c ⟨[tv], [], []⟩ so sm sv sf _ tv v1) rfl rfl ?_
  rintro r h' n' hn ⟨sv, sf, rfl, rfl⟩
  simp -implicitDefEqProofs only [go_sem, RegH, nO, nM, nV, nF, nL, Val.v, Val.row, irow, e2]
  refine CallS.at [0, 1, 2, 3] [4] (ref_c ⟨[tv, tv], [], []⟩ so sm sv sf _ tv v2) rfl rfl ?_
  rintro r h' n' hn ⟨sv, sf, rfl, rfl⟩
  simp -implicitDefEqProofs only [go_sem, RegH, nO, nM, nV, nF, nL, Val.v, Val.row, irow, e3]
  refine CallS.at [0, 1, 2, 3] [4] (unref_c ⟨[tv, tv, tv], [], []⟩ so sm sv sf _ 1 v3) rfl rfl ?_
  rintro r h' n' hn ⟨sv, sf, rfl, rfl⟩
  simp -implicitDefEqProofs only [go_sem, RegH, nO, nM, nV, nF, nL, Val.v, Val.row, irow, e4]
  refine CallS.at [0, 1, 2, 3] [4] (unref_c ⟨[Val.none, tv, tv], [1], []⟩ so sm sv sf _ 2 v4) rfl rfl ?_
  rintro r h' n' hn ⟨sv, sf, rfl, rfl⟩
  simp -implicitDefEqProofs only [go_sem, RegH, nO, nM, nV, nF, nL, Val.v, Val.row, irow, e5]
  refine CallS.at [0, 1, 2, 3] [4] (ref_c ⟨[Val.none, Val.none, tv], [1, 2], []⟩ so sm sv sf _ tv v5) rfl rfl ?_
  rintro r h' n' hn ⟨sv, sf, rfl, rfl⟩
  simp -implicitDefEqProofs only [go_sem, RegH, nO, nM, nV, nF, nL, Val.v, Val.row, irow, e6]
  refine CallS.at [0, 1, 2, 3] [4] (ref_c ⟨[Val.none, tv, tv], [1], []⟩ so sm sv sf _ tv v6) rfl rfl ?_
  rintro r h' n' hn ⟨sv, sf, rfl, rfl⟩
  simp -implicitDefEqProofs only [go_sem, RegH, nO, nM, nV, nF, nL, Val.v, Val.row, irow, e7]
  refine CallS.at [0, 1, 2, 3] [4] (len_c ⟨[tv, tv, tv], [], []⟩ so sm sv sf _ v7) rfl rfl ?_
  rintro r h' n' hn ⟨rfl, rfl⟩
  simp -implicitDefEqProofs only [go_sem, RegH, nO, nM, nV, nF, nL, Val.v, Val.row, irow, Reg.len]
  first | done | rfl

end Go.Proofs.Ytlmmmplgogbjgaa
