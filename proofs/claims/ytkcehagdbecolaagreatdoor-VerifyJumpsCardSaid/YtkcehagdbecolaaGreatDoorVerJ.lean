/-
  VerifyJumps: the walk. No condition.
-/
import Derived.Test.YtkcehagdbecolaaGreatDoorVerP5
import Derived.Test.YtkcehagdbecolaaGreatDoorVerEj
import Derived.Test.YtkcehagdbecolaaGreatDoorVerNn
set_option linter.unusedVariables false
set_option linter.unusedSimpArgs false
set_option maxRecDepth 100000
set_option maxHeartbeats 0
namespace Go.Proofs.YtkcehagdbecolaaGreatDoor
open Go.Abs
attribute [local irreducible] CallS Run
-- EV: Ins.v, Ins.row

theorem verifyJumps_args (n0 : List V) (w0 : Typed Tryz.prog 29 n0) : Pure Tryz.prog 3 [.agg n0] (.bool true) := by
  obtain ⟨p, rfl, hp⟩ := fn_args w0
  have lp := vlarge_pure p hp
  obtain ⟨f1, f2⟩ := fn_row11 p
  have sp := Fn.row_sub lost p
  refine Pure.of 0 (CallS.enter scriptinglaw36_VerifyJumps_ok (Nat.le_of_ble_eq_true rfl) (Run.go 100 ?_))
  cases hL : vlargeB p with
  | true =>
    rw [hL] at lp
    generalize p.row = pr at *
    simp -implicitDefEqProofs only [go_sem, Ins.v, Ins.row, initSl, f1, f2]
    refine CallS.pureF lp (by simp -implicitDefEqProofs only [go_sem, Ins.v, Ins.row, sp]) ?_
    simp -implicitDefEqProofs only [go_sem, Ins.v, Ins.row]
    refine CallS.pureF vlives_pure (by simp -implicitDefEqProofs only [go_sem, Ins.v, Ins.row]) ?_
    simp -implicitDefEqProofs only [go_sem, Ins.v, Ins.row]
  | false =>
    rw [hL] at lp
    have hS := small_of (Bool.or_eq_false_iff.1 hL).1
    have hb := hS.bd
    have hd : p.depth ≤ 900 := Nat.le_trans (Fn.depth_each p) (Nat.le_trans hS.count (by decide))
    have cc := vcheck_pure p hb hd
    by_cases ck : verE p = 0
    case neg =>
      generalize verE p = z at *
      generalize p.row = pr at *
      simp -implicitDefEqProofs only [go_sem, Ins.v, Ins.row, initSl, f1, f2]
      refine CallS.pureF lp (by simp -implicitDefEqProofs only [go_sem, Ins.v, Ins.row, sp]) ?_
      simp -implicitDefEqProofs only [go_sem, Ins.v, Ins.row, f1, f2]
      refine CallS.pureF cc (by simp -implicitDefEqProofs only [go_sem, Ins.v, Ins.row, sp]) ?_
      simp -implicitDefEqProofs only [go_sem, Ins.v, Ins.row, ck]
      refine CallS.pureF vlives_pure (by simp -implicitDefEqProofs only [go_sem, Ins.v, Ins.row]) ?_
      simp -implicitDefEqProofs only [go_sem, Ins.v, Ins.row]
    obtain ⟨hck, hfr⟩ := (verE_iff p).1 ck
    have hs := Sound.of hck
    have hv := hfr p (Fn.self_mem p)
    rw [ck] at cc
    have hcl : p.code.length ≤ 400 := by have := (hS.parts p (Fn.self_mem p)).1; unfold parts at this; omega
    have cr := rreach_of p (by omega)
    have cn := rnext_of p (by omega)
    have hlaw := fun a (h : Path p.code a) => jumps_law hs (stM_is hs.code0) hv h
    have hin := fun a x (hx : x ∈ nextL p.code a) => nextL_in hx
    have hnl2 := fun a => nextL_len2 p.code a
    have h5 : p.row[5]? = some (.isl (p.code.map Ins.row)) := by rw [Fn.row_eq]; rfl
    have l5 : (p.code.map Ins.row).length = p.code.length := List.length_map ..
    have z5 := eq_true (rowsz_of Ins.row 5 (fun _ => rfl) p.code)
    have r5 : ∀ k, k < p.code.length → (p.code.map Ins.row)[k]? = some (insAt p.code k).row := fun k hk => by rw [List.getElem?_map, (insAt_mem hk).1]; rfl
    have lR : ((reachL p.code).map brw).length = p.code.length := by rw [List.length_map, reachL_len]
    have zR := eq_true (rowsz_of brw 1 (fun _ => rfl) (reachL p.code))
    have rR : ∀ k, k < p.code.length → ((reachL p.code).map brw)[k]? = some [.bool (reachB p.code k)] := fun k hk => by rw [List.getElem?_map, reachL_at hk]; rfl
    generalize (reachL p.code).map brw = RL at *
    generalize p.code.map Ins.row = CR at *
    generalize p.row = pr at *
    simp -implicitDefEqProofs only [go_sem, Ins.v, Ins.row, initSl, f1, f2]
    refine CallS.pureF lp (by simp -implicitDefEqProofs only [go_sem, Ins.v, Ins.row, sp]) ?_
    simp -implicitDefEqProofs only [go_sem, Ins.v, Ins.row, f1, f2]
    refine CallS.pureF cc (by simp -implicitDefEqProofs only [go_sem, Ins.v, Ins.row, sp]) ?_
    simp -implicitDefEqProofs only [go_sem, Ins.v, Ins.row, f1, f2]
    refine CallS.pureF cr (by simp -implicitDefEqProofs only [go_sem, Ins.v, Ins.row, sp]) ?_
    simp -implicitDefEqProofs only [go_sem, Ins.v, Ins.row, f1, f2]
    refine Run.keep [4, 3, 1] ?_
    refine Run.rounds (fun (x : Nat) => ⟨[(4, .int .i64 x), (3, .isl RL), (1, .ptr (3 * 10000 + 1) 0 0 0)], [((3 * 10000 + 1), 0, .rows 11 [pr])], 1⟩) (fun x => x ≤ p.code.length) (fun x => p.code.length - x) 0 (by simp -implicitDefEqProofs only [go_sem, Ins.v, Ins.row]) (Nat.zero_le _) ?_
    intro k hk ih
    refine Run.unf scriptinglaw36_VerifyJumps_l0_eq (Run.go 100 ?_)
    by_cases hlt : k < p.code.length
    case neg =>
      have e : k = p.code.length := by omega
      subst e
      simp -implicitDefEqProofs only [go_sem, Ins.v, Ins.row, f1, f2, h5, l5, Int.lt_irrefl]
      refine CallS.pureF vlives_pure (by simp -implicitDefEqProofs only [go_sem, Ins.v, Ins.row]) ?_
      simp -implicitDefEqProofs only [go_sem, Ins.v, Ins.row]
    have q0 : ((k : Int) < (p.code.length : Int)) = True := eq_true (by omega)
    have q1 : ((0 : Int) ≤ (k : Int)) = True := eq_true (by omega)
    have hzk : ((k + 1 : Nat) : Int) = (k : Int) + 1 := by omega
    have hrr := rR k hlt
    cases hre : reachB p.code k with
    | false =>
      rw [hre] at hrr
      simp -implicitDefEqProofs only [go_sem, Ins.v, Ins.row, f1, f2, h5, l5, q0, q1, lR, zR, hrr, hlt, Option.some.injEq, forall_eq']
      refine ⟨by omega, ih _ (k + 1) (by omega) (by omega) (by simp -implicitDefEqProofs only [go_sem, Ins.v, Ins.row, hzk])⟩
    | true =>
    rw [hre] at hrr
    obtain ⟨hl1, hl2⟩ := hlaw k (reachB_iff.1 hre)
    have cn := cn k
    have hin := hin k
    have hnl2 := hnl2 k
    have hir := r5 k hlt
    generalize hnl : nextL p.code k = nl at *
    generalize insAt p.code k = ik at *
    have hnls : ∀ (k : Nat) (x : Int), nl[k]? = some x → (nl.map zrw)[k]? = some [.int .i64 x] := fun k x h => zrw_at h
    have hnll : (nl.map zrw).length = nl.length := List.length_map ..
    have hnlz := rowszZ' nl
    generalize nl.map zrw = nls at *
    simp -implicitDefEqProofs only [go_sem, Ins.v, Ins.row, f1, f2, h5, l5, q0, q1, lR, zR, hrr, hlt, Option.some.injEq, forall_eq']
    refine CallS.pureF cn (by simp -implicitDefEqProofs only [go_sem, Ins.v, Ins.row, sp]) ?_
    have hop : (nl.length : Int) = 0 → ik.op = 18 ∨ ik.op = 17 := fun h => hl1 (List.length_eq_zero_iff.1 (by omega))
    by_cases hn0 : (nl.length : Int) = 0
    · have hop := hop hn0
      rcases hop with hop | hop
      · simp -implicitDefEqProofs only [go_sem, Ins.v, Ins.row, f1, f2, h5, l5, z5, q0, q1, hir, hlt, hnll, hn0, hop, Option.some.injEq, forall_eq']
        refine Run.keep [7, 6, 5, 4, 3, 1] ?_
        refine Run.rounds (fun (x : Nat) => ⟨[(7, .int .i64 x), (5, .isl nls), (4, .int .i64 k), (3, .isl RL), (1, .ptr (3 * 10000 + 1) 0 0 0)], [((3 * 10000 + 1), 0, .rows 11 [pr])], 1⟩) (fun x => x ≤ nl.length) (fun x => nl.length - x) 0 (by simp -implicitDefEqProofs only [go_sem, Ins.v, Ins.row]) (Nat.zero_le _) ?_
        intro j hj ih2
        refine Run.unf scriptinglaw36_VerifyJumps_l1_eq (Run.go 100 ?_)
        by_cases hjl : j < nl.length
        case neg =>
          have e : j = nl.length := by omega
          have e2 : nls.length = j := by omega
          simp -implicitDefEqProofs only [go_sem, Ins.v, Ins.row, e2, Int.lt_irrefl]
          refine ⟨by omega, ih _ (k + 1) (by omega) (by omega) (by simp -implicitDefEqProofs only [go_sem, Ins.v, Ins.row, hzk])⟩
        have w0 : ((j : Int) < (nl.length : Int)) = True := eq_true (by omega)
        have w1 : ((0 : Int) ≤ (j : Int)) = True := eq_true (by omega)
        have hzj : ((j + 1 : Nat) : Int) = (j : Int) + 1 := by omega
        obtain ⟨t, ht⟩ : ∃ x, nl[j]? = some x := ⟨nl[j], by simp [hjl]⟩
        have htr := hnls j t ht
        obtain ⟨ht0, htn⟩ := hin t (List.mem_of_getElem? ht)
        obtain ⟨B, rfl⟩ : ∃ B : Nat, t = B := ⟨t.toNat, by omega⟩
        have hBn : B < p.code.length := by omega
        have hiB := r5 B hBn
        have hb := hl2 _ (List.mem_of_getElem? ht)
        rw [Int.toNat_natCast] at hb
        generalize insAt p.code B = ib at *
        by_cases hle : (B : Int) ≤ (k : Int)
        · have hb := hb hle
          simp -implicitDefEqProofs only [go_sem, Ins.v, Ins.row, w0, w1, hnll, hnlz, htr, hjl, hle, f1, f2, h5, l5, z5, hBn, hiB, hb, Option.some.injEq, forall_eq']
          repeat refine And.intro (by omega) ?_
          exact ih2 _ (j + 1) (by omega) (by omega) (by simp -implicitDefEqProofs only [go_sem, Ins.v, Ins.row, hzj])
        · simp -implicitDefEqProofs only [go_sem, Ins.v, Ins.row, w0, w1, hnll, hnlz, htr, hjl, hle, Option.some.injEq, forall_eq']
          refine ⟨by omega, ih2 _ (j + 1) (by omega) (by omega) (by simp -implicitDefEqProofs only [go_sem, Ins.v, Ins.row, hzj])⟩
      · simp -implicitDefEqProofs only [go_sem, Ins.v, Ins.row, f1, f2, h5, l5, z5, q0, q1, hir, hlt, hnll, hn0, hop, Option.some.injEq, forall_eq']
        refine Run.keep [7, 6, 5, 4, 3, 1] ?_
        refine Run.rounds (fun (x : Nat) => ⟨[(7, .int .i64 x), (5, .isl nls), (4, .int .i64 k), (3, .isl RL), (1, .ptr (3 * 10000 + 1) 0 0 0)], [((3 * 10000 + 1), 0, .rows 11 [pr])], 1⟩) (fun x => x ≤ nl.length) (fun x => nl.length - x) 0 (by simp -implicitDefEqProofs only [go_sem, Ins.v, Ins.row]) (Nat.zero_le _) ?_
        intro j hj ih2
        refine Run.unf scriptinglaw36_VerifyJumps_l1_eq (Run.go 100 ?_)
        by_cases hjl : j < nl.length
        case neg =>
          have e : j = nl.length := by omega
          have e2 : nls.length = j := by omega
          simp -implicitDefEqProofs only [go_sem, Ins.v, Ins.row, e2, Int.lt_irrefl]
          refine ⟨by omega, ih _ (k + 1) (by omega) (by omega) (by simp -implicitDefEqProofs only [go_sem, Ins.v, Ins.row, hzk])⟩
        have w0 : ((j : Int) < (nl.length : Int)) = True := eq_true (by omega)
        have w1 : ((0 : Int) ≤ (j : Int)) = True := eq_true (by omega)
        have hzj : ((j + 1 : Nat) : Int) = (j : Int) + 1 := by omega
        obtain ⟨t, ht⟩ : ∃ x, nl[j]? = some x := ⟨nl[j], by simp [hjl]⟩
        have htr := hnls j t ht
        obtain ⟨ht0, htn⟩ := hin t (List.mem_of_getElem? ht)
        obtain ⟨B, rfl⟩ : ∃ B : Nat, t = B := ⟨t.toNat, by omega⟩
        have hBn : B < p.code.length := by omega
        have hiB := r5 B hBn
        have hb := hl2 _ (List.mem_of_getElem? ht)
        rw [Int.toNat_natCast] at hb
        generalize insAt p.code B = ib at *
        by_cases hle : (B : Int) ≤ (k : Int)
        · have hb := hb hle
          simp -implicitDefEqProofs only [go_sem, Ins.v, Ins.row, w0, w1, hnll, hnlz, htr, hjl, hle, f1, f2, h5, l5, z5, hBn, hiB, hb, Option.some.injEq, forall_eq']
          repeat refine And.intro (by omega) ?_
          exact ih2 _ (j + 1) (by omega) (by omega) (by simp -implicitDefEqProofs only [go_sem, Ins.v, Ins.row, hzj])
        · simp -implicitDefEqProofs only [go_sem, Ins.v, Ins.row, w0, w1, hnll, hnlz, htr, hjl, hle, Option.some.injEq, forall_eq']
          refine ⟨by omega, ih2 _ (j + 1) (by omega) (by omega) (by simp -implicitDefEqProofs only [go_sem, Ins.v, Ins.row, hzj])⟩
    · simp -implicitDefEqProofs only [go_sem, Ins.v, Ins.row, f1, f2, h5, l5, z5, q0, q1, hir, hlt, hnll, hn0, Option.some.injEq, forall_eq']
      refine Run.keep [7, 6, 5, 4, 3, 1] ?_
      refine Run.rounds (fun (x : Nat) => ⟨[(7, .int .i64 x), (5, .isl nls), (4, .int .i64 k), (3, .isl RL), (1, .ptr (3 * 10000 + 1) 0 0 0)], [((3 * 10000 + 1), 0, .rows 11 [pr])], 1⟩) (fun x => x ≤ nl.length) (fun x => nl.length - x) 0 (by simp -implicitDefEqProofs only [go_sem, Ins.v, Ins.row]) (Nat.zero_le _) ?_
      intro j hj ih2
      refine Run.unf scriptinglaw36_VerifyJumps_l1_eq (Run.go 100 ?_)
      by_cases hjl : j < nl.length
      case neg =>
        have e : j = nl.length := by omega
        have e2 : nls.length = j := by omega
        simp -implicitDefEqProofs only [go_sem, Ins.v, Ins.row, e2, Int.lt_irrefl]
        refine ⟨by omega, ih _ (k + 1) (by omega) (by omega) (by simp -implicitDefEqProofs only [go_sem, Ins.v, Ins.row, hzk])⟩
      have w0 : ((j : Int) < (nl.length : Int)) = True := eq_true (by omega)
      have w1 : ((0 : Int) ≤ (j : Int)) = True := eq_true (by omega)
      have hzj : ((j + 1 : Nat) : Int) = (j : Int) + 1 := by omega
      obtain ⟨t, ht⟩ : ∃ x, nl[j]? = some x := ⟨nl[j], by simp [hjl]⟩
      have htr := hnls j t ht
      obtain ⟨ht0, htn⟩ := hin t (List.mem_of_getElem? ht)
      obtain ⟨B, rfl⟩ : ∃ B : Nat, t = B := ⟨t.toNat, by omega⟩
      have hBn : B < p.code.length := by omega
      have hiB := r5 B hBn
      have hb := hl2 _ (List.mem_of_getElem? ht)
      rw [Int.toNat_natCast] at hb
      generalize insAt p.code B = ib at *
      by_cases hle : (B : Int) ≤ (k : Int)
      · have hb := hb hle
        simp -implicitDefEqProofs only [go_sem, Ins.v, Ins.row, w0, w1, hnll, hnlz, htr, hjl, hle, f1, f2, h5, l5, z5, hBn, hiB, hb, Option.some.injEq, forall_eq']
        repeat refine And.intro (by omega) ?_
        exact ih2 _ (j + 1) (by omega) (by omega) (by simp -implicitDefEqProofs only [go_sem, Ins.v, Ins.row, hzj])
      · simp -implicitDefEqProofs only [go_sem, Ins.v, Ins.row, w0, w1, hnll, hnlz, htr, hjl, hle, Option.some.injEq, forall_eq']
        refine ⟨by omega, ih2 _ (j + 1) (by omega) (by omega) (by simp -implicitDefEqProofs only [go_sem, Ins.v, Ins.row, hzj])⟩
end Go.Proofs.YtkcehagdbecolaaGreatDoor
