/-
  What the reference's 'Reads' and 'Writes' answer. No condition.
-/
import Derived.Test.YtdnpnbenahpllaaDoorRr
set_option linter.unusedVariables false
set_option linter.unusedSimpArgs false
set_option maxRecDepth 100000
set_option maxHeartbeats 0
namespace Go.Proofs.YtdnpnbenahpllaaDoor
open Go.Abs
attribute [local irreducible] CallS Run
-- EV: Ins.v, Ins.row

theorem rset_call (zs : List Int) (hB : zs.length ≤ 1000) (b st n : Nat) : CallS Tryd.prog 53 [.sl b st 0 zs.length] [(b, st, .rows 1 (zs.map zrw))] n fun r h' _ => r = .isl ((normZ zs).map zrw) ∧ h' = [] :=
  CallS.pre (xs' := [.isl (zs.map zrw)]) (h' := []) (n' := n) (.freeze (b := b) (st := st) (sz := 1) (rs := zs.map zrw) List.mem_cons_self ⟨Frz.all (List.length_map ..).symm, trivial⟩ trivial) rfl
    (CallS.pureF (rset_pure zs hB) (by simp only [List.map_cons, List.map_nil, V.sub, subLL_map, subZ']) ⟨rfl, rfl⟩)

theorem normZ_three (a : Int) : normZ [a, a + 1, a + 2] = spanN a 3 := by
  have e : spanN a 3 = [a, a + 1, a + 2] := by simp [spanN, List.range_succ]
  rw [← e]; exact normZ_asc (asc_spanN a 3)
theorem normZ_two' (a b : Int) (h : a < b) : normZ [a, b] = [a, b] := by rw [normZ_two, if_neg (by omega), if_pos h]

theorem rreads_pure (i : Ins) : Pure Tryd.prog 38 [i.v] (.tup [.isl ((reads i).1.map zrw), .int .i64 (reads i).2]) := by
  refine Pure.of 1 (CallS.enter scriptingref32_Reads_ok (Nat.le_of_ble_eq_true rfl) ?_)
  refine Run.go 100 ?_
  simp -implicitDefEqProofs only [go_sem, Ins.v, Ins.row, initSl]
  refine CallS.pureF (rcheck_pure i) (by simp -implicitDefEqProofs only [go_sem, Ins.v, Ins.row]) ?_
  by_cases hc : chk i = 0
  rotate_left
  · rw [show reads i = ([], -1) from if_neg hc]
    simp -implicitDefEqProofs only [go_sem, Ins.v, Ins.row, hc, List.map_nil]
  · rw [show reads i = rds i from if_pos hc, hc]
    have h0 := chk_ok hc
    simp -implicitDefEqProofs only [go_sem, Ins.v, Ins.row]
    repeat' (first | refine And.intro ?_ ?_ | refine fun h => ?_)
    all_goals first
      | omega
      | (simp [rds, zrw, *]; done)
      | (rw [show rds i = (normZ [i.b], -1) by simp [rds, normZ_one, *]]
         refine CallS.at [0] [] (rset_call [i.b] (by simp) _ _ _) rfl rfl ?_
         rintro r h' n' hn ⟨rfl, rfl⟩
         simp -implicitDefEqProofs only [go_sem, Ins.v, Ins.row, frzZ]
         done)
      | (rw [show rds i = (normZ [i.a], -1) by simp [rds, normZ_one, *]]
         refine CallS.at [0] [] (rset_call [i.a] (by simp) _ _ _) rfl rfl ?_
         rintro r h' n' hn ⟨rfl, rfl⟩
         simp -implicitDefEqProofs only [go_sem, Ins.v, Ins.row, frzZ]
         done)
      | (rw [show rds i = (normZ [i.a + 3], -1) by simp [rds, normZ_one, *]]
         refine CallS.at [0] [] (rset_call [i.a + 3] (by simp) _ _ _) rfl rfl ?_
         rintro r h' n' hn ⟨rfl, rfl⟩
         simp -implicitDefEqProofs only [go_sem, Ins.v, Ins.row, frzZ]
         done)
      | (rw [show rds i = (normZ [i.b, i.c], -1) by simp [rds, *]]
         refine CallS.at [0] [] (rset_call [i.b, i.c] (by simp) _ _ _) rfl rfl ?_
         rintro r h' n' hn ⟨rfl, rfl⟩
         simp -implicitDefEqProofs only [go_sem, Ins.v, Ins.row, frzZ]
         done)
      | (rw [show rds i = (normZ [i.a, i.b, i.c], -1) by simp [rds, *]]
         refine CallS.at [0] [] (rset_call [i.a, i.b, i.c] (by simp) _ _ _) rfl rfl ?_
         rintro r h' n' hn ⟨rfl, rfl⟩
         simp -implicitDefEqProofs only [go_sem, Ins.v, Ins.row, frzZ]
         done)
      | (rw [show rds i = (normZ [i.a, i.a + 1, i.a + 2], -1) by (rw [normZ_three]; simp [rds, spanP, *])]
         refine CallS.at [0] [] (rset_call [i.a, i.a + 1, i.a + 2] (by simp) _ _ _) rfl rfl ?_
         rintro r h' n' hn ⟨rfl, rfl⟩
         simp -implicitDefEqProofs only [go_sem, Ins.v, Ins.row, frzZ]
         done)
      | (rw [show rds i = (i.a :: (spanP (i.a + 1) i.b).1, (spanP (i.a + 1) i.b).2) by simp [rds, *]]
         refine CallS.at [0] [] (ropen_call i.a (i.a + 1) i.b ⟨by omega, by omega⟩ (by omega) _ _ _) rfl rfl ?_
         rintro r h' n' hn ⟨s', rfl, rfl⟩
         simp -implicitDefEqProofs only [go_sem, Ins.v, Ins.row]
         exact ⟨rfl, frzZ _ _ _⟩)
      | (rw [show rds i = spanP (i.a) i.b by simp [rds, *]]
         refine CallS.at [] [] (ropen_nil (i.a) i.b ⟨by omega, by omega⟩ (by omega) _) rfl rfl ?_
         rintro r h' n' hn ⟨rfl, rfl⟩
         simp -implicitDefEqProofs only [go_sem, Ins.v, Ins.row, frzZ]
         done)

theorem rwrites_pure (i : Ins) : Pure Tryd.prog 43 [i.v] (.tup [.isl ((writes i).1.map zrw), .int .i64 (writes i).2]) := by
  refine Pure.of 1 (CallS.enter scriptingref32_Writes_ok (Nat.le_of_ble_eq_true rfl) ?_)
  refine Run.go 100 ?_
  simp -implicitDefEqProofs only [go_sem, Ins.v, Ins.row, initSl]
  refine CallS.pureF (rcheck_pure i) (by simp -implicitDefEqProofs only [go_sem, Ins.v, Ins.row]) ?_
  by_cases hc : chk i = 0
  rotate_left
  · rw [show writes i = ([], -1) from if_neg hc]
    simp -implicitDefEqProofs only [go_sem, Ins.v, Ins.row, hc, List.map_nil]
  · rw [show writes i = wrs i from if_pos hc, hc]
    have h0 := chk_ok hc
    have h1 := chk_fits hc
    simp -implicitDefEqProofs only [go_sem, Ins.v, Ins.row]
    repeat' (first | refine And.intro ?_ ?_ | refine fun h => ?_)
    all_goals first
      | omega
      | (simp [wrs, zrw, *]; done)
      | (rw [show wrs i = (normZ [i.a], -1) by simp [wrs, normZ_one, *]]
         refine CallS.at [0] [] (rset_call [i.a] (by simp) _ _ _) rfl rfl ?_
         rintro r h' n' hn ⟨rfl, rfl⟩
         simp -implicitDefEqProofs only [go_sem, Ins.v, Ins.row, frzZ]
         done)
      | (rw [show wrs i = (normZ [i.a + 3], -1) by simp [wrs, normZ_one, *]]
         refine CallS.at [0] [] (rset_call [i.a + 3] (by simp) _ _ _) rfl rfl ?_
         rintro r h' n' hn ⟨rfl, rfl⟩
         simp -implicitDefEqProofs only [go_sem, Ins.v, Ins.row, frzZ]
         done)
      | (rw [show wrs i = (normZ [i.a + 2], -1) by simp [wrs, normZ_one, *]]
         refine CallS.at [0] [] (rset_call [i.a + 2] (by simp) _ _ _) rfl rfl ?_
         rintro r h' n' hn ⟨rfl, rfl⟩
         simp -implicitDefEqProofs only [go_sem, Ins.v, Ins.row, frzZ]
         done)
      | (rw [show wrs i = (normZ [i.a, i.a + 1], -1) by (rw [normZ_two' _ _ (by omega)]; simp [wrs, *])]
         refine CallS.at [0] [] (rset_call [i.a, i.a + 1] (by simp) _ _ _) rfl rfl ?_
         rintro r h' n' hn ⟨rfl, rfl⟩
         simp -implicitDefEqProofs only [go_sem, Ins.v, Ins.row, frzZ]
         done)
      | (rw [show wrs i = (normZ [i.a, i.a + 3], -1) by (rw [normZ_two' _ _ (by omega)]; simp [wrs, *])]
         refine CallS.at [0] [] (rset_call [i.a, i.a + 3] (by simp) _ _ _) rfl rfl ?_
         rintro r h' n' hn ⟨rfl, rfl⟩
         simp -implicitDefEqProofs only [go_sem, Ins.v, Ins.row, frzZ]
         done)
      | (rw [show wrs i = (spanN (i.a) (i.b - i.a + 1).toNat, -1) by simp [wrs, *]; exact spanP_pos (by omega)]
         refine CallS.at [] [] (rspan_nil (i.a) (i.b - i.a + 1) ⟨by omega, by omega⟩ (by omega) _) rfl rfl ?_
         rintro r h' n' hn ⟨rfl, rfl⟩
         simp -implicitDefEqProofs only [go_sem, Ins.v, Ins.row, frzZ]
         done)
      | (rw [show wrs i = (spanN (i.a + 3) (i.c).toNat, -1) by simp [wrs, *]; exact spanP_pos (by omega)]
         refine CallS.at [] [] (rspan_nil (i.a + 3) (i.c) ⟨by omega, by omega⟩ (by omega) _) rfl rfl ?_
         rintro r h' n' hn ⟨rfl, rfl⟩
         simp -implicitDefEqProofs only [go_sem, Ins.v, Ins.row, frzZ]
         done)
      | (rw [show wrs i = spanP (i.a) (i.c) by simp [wrs, *]]
         refine CallS.at [] [] (ropen_nil (i.a) (i.c) ⟨by omega, by omega⟩ (by omega) _) rfl rfl ?_
         rintro r h' n' hn ⟨rfl, rfl⟩
         simp -implicitDefEqProofs only [go_sem, Ins.v, Ins.row, frzZ]
         done)
      | (rw [show wrs i = spanP (i.a) (i.b) by simp [wrs, *]]
         refine CallS.at [] [] (ropen_nil (i.a) (i.b) ⟨by omega, by omega⟩ (by omega) _) rfl rfl ?_
         rintro r h' n' hn ⟨rfl, rfl⟩
         simp -implicitDefEqProofs only [go_sem, Ins.v, Ins.row, frzZ]
         done)
end Go.Proofs.YtdnpnbenahpllaaDoor
