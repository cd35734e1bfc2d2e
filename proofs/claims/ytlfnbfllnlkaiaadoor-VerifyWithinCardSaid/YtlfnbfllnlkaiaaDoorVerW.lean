/-
  VerifyWithin: the walk. No condition.
-/
import Derived.Test.YtlfnbfllnlkaiaaDoorVerP5
set_option linter.unusedVariables false
set_option linter.unusedSimpArgs false
set_option maxRecDepth 100000
set_option maxHeartbeats 0
namespace Go.Proofs.YtlfnbfllnlkaiaaDoor
open Go.Abs
attribute [local irreducible] CallS Run

theorem verifyWithin_args (n0 : List V) (w0 : Typed Tryd.prog 29 n0) : Pure Tryd.prog 3 [.agg n0] (.bool true) := by
  obtain ⟨p, rfl, hp⟩ := fn_args w0
  have lp := vlarge_pure p hp
  obtain ⟨f1, f2⟩ := fn_row11 p
  have sp := Fn.row_sub lost p
  refine Pure.of 0 (CallS.enter scriptinglaw36_VerifyWithin_ok (Nat.le_of_ble_eq_true rfl) (Run.go 100 ?_))
  cases hL : vlargeB p with
  | true =>
    rw [hL] at lp
    generalize p.row = pr at *
    simp -implicitDefEqProofs only [go_sem, initSl, f1, f2]
    refine CallS.pureF lp (by simp -implicitDefEqProofs only [go_sem, sp]) ?_
    simp -implicitDefEqProofs only [go_sem]
    refine CallS.pureF vlives_pure (by simp -implicitDefEqProofs only [go_sem]) ?_
    simp -implicitDefEqProofs only [go_sem]
  | false =>
    rw [hL] at lp
    have hS := small_of (Bool.or_eq_false_iff.1 hL).1
    have hb := hS.bd
    have hc : p.each.length ≤ 1000000 := Nat.le_trans hS.count (by decide)
    have hd : p.depth ≤ 900 := Nat.le_trans (Fn.depth_each p) (Nat.le_trans hS.count (by decide))
    have cc := vcheck_pure p hb hd
    by_cases ck : verE p = 0
    case neg =>
      generalize verE p = z at *
      generalize p.row = pr at *
      simp -implicitDefEqProofs only [go_sem, initSl, f1, f2]
      refine CallS.pureF lp (by simp -implicitDefEqProofs only [go_sem, sp]) ?_
      simp -implicitDefEqProofs only [go_sem, f1, f2]
      refine CallS.pureF cc (by simp -implicitDefEqProofs only [go_sem, sp]) ?_
      simp -implicitDefEqProofs only [go_sem, ck]
      refine CallS.pureF vlives_pure (by simp -implicitDefEqProofs only [go_sem]) ?_
      simp -implicitDefEqProofs only [go_sem]
    have cr := reach_call p hb hc
    have cs := rstrip_pure p hb
    have ct := vcheck_pure p.strip hb.strip (by rw [Fn.depth_strip]; exact hd)
    rw [verE_strip ck] at ct
    rw [ck] at cc
    have hq : ∀ q ∈ p.each, Pure Tryd.prog 6 [.agg q.row] (.int .i64 0) := fun q hq => by
      have := vcheck_pure q (hb.within hq) (Nat.le_trans (Fn.depth_within p q hq) hd)
      rwa [verE_within ck hq] at this
    have la : (p.each.map Fn.row).length = p.each.length := List.length_map ..
    have za := eq_true (rowsz_of Fn.row 11 Fn.row_len p.each)
    have ra : ∀ (k : Nat) x, p.each[k]? = some x → (p.each.map Fn.row)[k]? = some (Fn.row x) := fun k x hk => by rw [List.getElem?_map, hk]; rfl
    obtain ⟨g1, g2⟩ := fn_row11 p.strip
    have sq := Fn.row_sub lost p.strip
    generalize p.each.map Fn.row = A at *
    generalize p.strip.row = qr at *
    generalize p.row = pr at *
    simp -implicitDefEqProofs only [go_sem, initSl, f1, f2]
    refine CallS.pureF lp (by simp -implicitDefEqProofs only [go_sem, sp]) ?_
    simp -implicitDefEqProofs only [go_sem, f1, f2]
    refine CallS.pureF cc (by simp -implicitDefEqProofs only [go_sem, sp]) ?_
    simp -implicitDefEqProofs only [go_sem, f1, f2]
    refine CallS.pureF cr (by simp -implicitDefEqProofs only [go_sem, sp]) ?_
    simp -implicitDefEqProofs only [go_sem, f1, f2]
    refine Run.keep [4, 3, 1] ?_
    refine Run.rounds (fun (x : Nat × Nat) => ⟨[(4, .int .i64 x.1), (3, .isl A), (1, .ptr (3 * 10000 + 1) 0 0 0)], [((3 * 10000 + 1), 0, .rows 11 [pr])], x.2⟩) (fun x => x.1 ≤ p.each.length) (fun x => p.each.length - x.1) (0, 1) (by simp -implicitDefEqProofs only [go_sem]) (Nat.zero_le _) ?_
    rintro ⟨k, m⟩ hk ih
    simp only at hk ih ⊢
    refine Run.unf scriptinglaw36_VerifyWithin_l0_eq (Run.go 100 ?_)
    by_cases hlt : k < p.each.length
    · have q0 : ((k : Int) < (p.each.length : Int)) = True := eq_true (by omega)
      have q1 : ((0 : Int) ≤ (k : Int)) = True := eq_true (by omega)
      obtain ⟨x, hx⟩ : ∃ x, p.each[k]? = some x := ⟨p.each[k], by simp [hlt]⟩
      have hxr := ra k x hx
      have hqx := hq x (List.mem_of_getElem? hx)
      have hzk : ((k + 1 : Nat) : Int) = (k : Int) + 1 := by omega
      obtain ⟨m1, m2⟩ := fn_row11 x
      have sx := Fn.row_sub lost x
      generalize x.row = xr at *
      simp -implicitDefEqProofs only [go_sem, q0, q1, la, za, hxr, hlt, m1, m2, Option.some.injEq, forall_eq']
      refine CallS.pureF hqx (by simp -implicitDefEqProofs only [go_sem, sx]) ?_
      simp -implicitDefEqProofs only [go_sem]
      refine ⟨by omega, ?_⟩
      exact ih _ (k + 1, m) (by simp only; omega) (by simp only; omega) (by simp -implicitDefEqProofs only [go_sem, hzk])
    · have e : k = p.each.length := by omega
      subst e
      simp -implicitDefEqProofs only [go_sem, la, Int.lt_irrefl, f1, f2]
      refine CallS.pureF cs (by simp -implicitDefEqProofs only [go_sem, sp]) ?_
      simp -implicitDefEqProofs only [go_sem, g1, g2]
      refine CallS.pureF ct (by simp -implicitDefEqProofs only [go_sem, sq]) ?_
      simp -implicitDefEqProofs only [go_sem]
      refine CallS.pureF vlives_pure (by simp -implicitDefEqProofs only [go_sem]) ?_
      simp -implicitDefEqProofs only [go_sem]
end Go.Proofs.YtlfnbfllnlkaiaaDoor
