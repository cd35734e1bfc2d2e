/-
  VerifyParams: the walk. No condition.
-/
import Derived.Test.YtppcibdjmnpdhaaGreatDoorVerP5
import Derived.Test.YtppcibdjmnpdhaaGreatDoorCodeQ
import Derived.Test.YtppcibdjmnpdhaaGreatDoorVerQ0
import Derived.Test.YtppcibdjmnpdhaaGreatDoorFnRc
set_option linter.unusedVariables false
set_option linter.unusedSimpArgs false
set_option maxRecDepth 100000
set_option maxHeartbeats 0
namespace Go.Proofs.YtppcibdjmnpdhaaGreatDoor
open Go.Abs
attribute [local irreducible] CallS Run
-- EV: Ins.v, Ins.row
attribute [local go_sem] Ins.v Ins.row
theorem setAt_row {N : Nat} (o : Option Stt) : ∃ k S mv ov, stR N o = [.isl S, ov, mv] ∧ S.length = k ∧ (k = if o.isSome then N else 0) ∧ rowsz S 1 = True ∧ ∀ r, r < k → S[r]? = some [.bool (setAt o r)] := by
  cases o with
  | none => exact ⟨0, [], _, _, rfl, rfl, rfl, eq_true (fun r hr => by cases hr), fun r hr => absurd hr (Nat.not_lt_zero _)⟩
  | some s => exact ⟨N, boolR N s.set, _, _, rfl, boolR_len _ _, rfl, boolR_sz _ _, fun r hr => boolR_at hr⟩
theorem vwrap_i {z : Int} (h0 : 0 ≤ z) (h : z < 9223372036854775808) : IntKind.wrap .i64 z = z := by
  have e : IntKind.wrap .i64 z = if z % 18446744073709551616 ≥ 9223372036854775808 then z % 18446744073709551616 - 18446744073709551616 else z % 18446744073709551616 := by
    unfold IntKind.wrap
    simp [IntKind.signed, IntKind.bits]
  rw [e, if_neg (by omega)]; omega
theorem Lower.same {o o' : Option Stt} (h : Lower o o') : o'.isSome = o.isSome := by
  cases o with
  | none => rw [h.none]
  | some s => obtain ⟨t, rfl⟩ := h.some; rfl
theorem verifyParams_args (n0 : List V) (w0 : Typed Tryz.prog 29 n0) (n1 : Int) (w1 : (Lit.int .u8 n1).wf = true) : Pure Tryz.prog 3 [.agg n0, .int .u8 n1] (.bool true) := by
  obtain ⟨p, rfl, hp⟩ := fn_args w0
  have hn1 : 0 ≤ n1 ∧ n1 ≤ 255 := by
    simp only [Lit.wf, Bool.and_eq_true, decide_eq_true_eq] at w1
    have e1 : IntKind.min .u8 = 0 := rfl
    have e2 : IntKind.max .u8 = 255 := by decide
    omega
  have lp := vlarge_pure p hp
  obtain ⟨f1, f2⟩ := fn_row11 p
  have sp := Fn.row_sub lost p
  have h2 : p.row[2]? = some (.int .i64 p.params) := by rw [Fn.row_eq]; rfl
  refine Pure.of 0 (CallS.enter scriptinglaw36_VerifyParams_ok (Nat.le_of_ble_eq_true rfl) (Run.go 100 ?_))
  cases hL : vlargeB p with
  | true =>
    rw [hL] at lp
    generalize p.row = pr at *
    simp -implicitDefEqProofs only [go_sem, initSl, f1, f2]
    refine CallS.pureF lp (by simp -implicitDefEqProofs only [go_sem, sp]) ?_
    simp -implicitDefEqProofs only [go_sem]
    refine CallS.pureF vlives_pure (by simp -implicitDefEqProofs only [go_sem]) ?_
    simp -implicitDefEqProofs only [go_sem]
  | false =>
    rw [hL] at lp
    have hS := small_of (Bool.or_eq_false_iff.1 hL).1
    have hb := hS.bd
    have hc : p.each.length ≤ 1000000 := Nat.le_trans hS.count (by decide)
    have hd : p.depth ≤ 900 := Nat.le_trans (Fn.depth_each p) (Nat.le_trans hS.count (by decide))
    by_cases hp0 : p.params ≤ 0
    · generalize p.params = pm at *
      generalize p.row = pr at *
      simp -implicitDefEqProofs only [go_sem, initSl, f1, f2]
      refine CallS.pureF lp (by simp -implicitDefEqProofs only [go_sem, sp]) ?_
      simp -implicitDefEqProofs only [go_sem, f1, f2, h2, hp0]
      refine CallS.pureF vlives_pure (by simp -implicitDefEqProofs only [go_sem]) ?_
      simp -implicitDefEqProofs only [go_sem]
    have cr := rcheck33_pure p hb hc
    by_cases ck : chkE p = 0
    case neg =>
      generalize p.params = pm at *
      generalize chkE p = z at *
      generalize p.row = pr at *
      simp -implicitDefEqProofs only [go_sem, initSl, f1, f2]
      refine CallS.pureF lp (by simp -implicitDefEqProofs only [go_sem, sp]) ?_
      simp -implicitDefEqProofs only [go_sem, f1, f2, h2, hp0]
      refine CallS.pureF cr (by simp -implicitDefEqProofs only [go_sem, sp]) ?_
      simp -implicitDefEqProofs only [go_sem, ck]
      refine CallS.pureF vlives_pure (by simp -implicitDefEqProofs only [go_sem]) ?_
      simp -implicitDefEqProofs only [go_sem]
    rw [ck] at cr
    have hs := Sound.of ck
    have hp1 : 0 < p.params := by omega
    obtain ⟨v, hv⟩ : ∃ v : Int, (IntKind.wrap .i64 n1).tmod p.params = v := ⟨_, rfl⟩
    have hv0 : 0 ≤ v ∧ v < p.params := by
      rw [vwrap_i (by omega) (by omega)] at hv
      rw [← hv]
      exact ⟨Int.tmod_nonneg _ hn1.1, Int.tmod_lt_of_pos _ hp1⟩
    have hcq := chkE_par (v := v) ck hv0.1 (by omega)
    have cs := vstates_pure p hb hd
    have cq := vstates_pure (p.par v) (hb.par v) (by rw [Fn.par_depth]; exact hd)
    have kp := vcheck_pure p hb hd
    have kq := vcheck_pure (p.par v) (hb.par v) (by rw [Fn.par_depth]; exact hd)
    have hpar := verE_par (v := v) ck (by omega)
    rw [if_neg (fun h => h ck)] at cs
    rw [if_neg (fun h => h hcq)] at cq
    have hlow := par_low (v := v) hs (by omega)
    have eq : (p.par v).row = [.str p.name, .int .i64 p.line, .int .i64 v, .bool p.vararg, .int .i64 p.regs, .isl (p.code.map Ins.row), .isl (p.lines.map lrow), .isl (p.consts.map Kst.row), .isl (p.protos.map Fn.row), .isl (p.ups.map Upv.row), .isl (p.vars.map Vr.row)] := by rw [Fn.row_eq]; rfl
    have sq := Fn.row_sub lost (p.par v)
    have hcq1 : stL (p.par v).regs.toNat (p.par v).code.length (stOf (p.par v)) = stL p.regs.toNat p.code.length (stOf (p.par v)) := rfl
    rw [hcq1] at cq
    rw [eq] at cq kq sq
    have lS : (stL p.regs.toNat p.code.length (stOf p)).length = p.code.length := by simp [stL]
    have zS : rowsz (stL p.regs.toNat p.code.length (stOf p)) 3 = True := eq_true fun r hr => by obtain ⟨a, _, rfl⟩ := List.mem_map.1 hr; exact stR_len _ _
    have rS : ∀ k, k < p.code.length → (stL p.regs.toNat p.code.length (stOf p))[k]? = some (stR p.regs.toNat (stOf p k)) := fun k hk => by unfold stL; rw [List.getElem?_map, List.getElem?_range hk]; rfl
    have lQ : (stL p.regs.toNat p.code.length (stOf (p.par v))).length = p.code.length := by simp [stL]
    have zQ : rowsz (stL p.regs.toNat p.code.length (stOf (p.par v))) 3 = True := eq_true fun r hr => by obtain ⟨a, _, rfl⟩ := List.mem_map.1 hr; exact stR_len _ _
    have rQ : ∀ k, k < p.code.length → (stL p.regs.toNat p.code.length (stOf (p.par v)))[k]? = some (stR p.regs.toNat (stOf (p.par v) k)) := fun k hk => by unfold stL; rw [List.getElem?_map, List.getElem?_range hk]; rfl
    have hcl := hs.code
    have hreg := hs.regs
    generalize stL p.regs.toNat p.code.length (stOf p) = ST at *
    generalize stL p.regs.toNat p.code.length (stOf (p.par v)) = SQ at *
    generalize verE (p.par v) = vq at *
    generalize verE p = vp at *
    generalize hNt : p.regs.toNat = N at *
    rw [Fn.row_eq] at *
    generalize p.code.map Ins.row = c5 at *
    generalize p.lines.map lrow = c6 at *
    generalize p.consts.map Kst.row = c7 at *
    generalize p.protos.map Fn.row = c8 at *
    generalize p.ups.map Upv.row = c9 at *
    generalize p.vars.map Vr.row = c10 at *
    simp -implicitDefEqProofs only [go_sem, initSl]
    refine CallS.pureF lp (by simp -implicitDefEqProofs only [go_sem, sp]) ?_
    simp -implicitDefEqProofs only [go_sem, hp0]
    refine CallS.pureF cr (by simp -implicitDefEqProofs only [go_sem, sp]) ?_
    simp -implicitDefEqProofs only [go_sem]
    refine ⟨by omega, ?_⟩
    refine CallS.pureF cs (by simp -implicitDefEqProofs only [go_sem, sp]) ?_
    simp -implicitDefEqProofs only [go_sem, hv]
    refine CallS.pureF cq (by simp -implicitDefEqProofs only [go_sem, sq]) ?_
    simp -implicitDefEqProofs only [go_sem, lS, lQ]
    refine Run.keep [10, 8, 6, 5, 2] ?_
    obtain ⟨pr, hpr⟩ : ∃ pr : List V, pr = [.str p.name, .int .i64 p.line, .int .i64 p.params, .bool p.vararg, .int .i64 p.regs, .isl c5, .isl c6, .isl c7, .isl c8, .isl c9, .isl c10] := ⟨_, rfl⟩
    obtain ⟨qr, hqr⟩ : ∃ qr : List V, qr = [.str p.name, .int .i64 p.line, .int .i64 v, .bool p.vararg, .int .i64 p.regs, .isl c5, .isl c6, .isl c7, .isl c8, .isl c9, .isl c10] := ⟨_, rfl⟩
    have p11 : pr.length = 11 := by rw [hpr]; rfl
    have p12 : pr.take 11 = pr := by rw [hpr]; rfl
    have q11 : qr.length = 11 := by rw [hqr]; rfl
    have q12 : qr.take 11 = qr := by rw [hqr]; rfl
    rw [← hpr] at kp sp
    rw [← hqr] at kq sq
    refine Run.rounds (fun (x : Nat) => ⟨[(10, .int .i64 x), (8, .isl SQ), (6, .isl ST), (5, .ptr (3 * 10000 + 5) 1 0 0), (2, .ptr (3 * 10000 + 2) 0 0 0)], [((3 * 10000 + 5), 1, .rows 11 [qr]), ((3 * 10000 + 2), 0, .rows 11 [pr])], 2⟩) (fun x => x ≤ p.code.length) (fun x => p.code.length - x) 0 ?_ (Nat.zero_le _) ?_
    · rw [hpr, hqr]; simp -implicitDefEqProofs only [go_sem]
    intro k hk ih
    clear hpr hqr
    refine Run.unf scriptinglaw36_VerifyParams_l0_eq (Run.go 100 ?_)
    by_cases hlt : k < p.code.length
    case neg =>
      have e : k = p.code.length := by omega
      subst e
      simp -implicitDefEqProofs only [go_sem, lS, Int.lt_irrefl, q11, q12]
      refine CallS.pureF kq (by simp -implicitDefEqProofs only [go_sem, sq]) ?_
      by_cases hvq : vq = 0
      · rw [hpar hvq] at kp
        simp -implicitDefEqProofs only [go_sem, hvq, p11, p12]
        refine CallS.pureF kp (by simp -implicitDefEqProofs only [go_sem, sp]) ?_
        simp -implicitDefEqProofs only [go_sem]
        refine CallS.pureF vlives_pure (by simp -implicitDefEqProofs only [go_sem]) ?_
        simp -implicitDefEqProofs only [go_sem]
      · simp -implicitDefEqProofs only [go_sem, hvq]
        refine CallS.pureF vlives_pure (by simp -implicitDefEqProofs only [go_sem]) ?_
        simp -implicitDefEqProofs only [go_sem]
    have q0 : ((k : Int) < (p.code.length : Int)) = True := eq_true (by omega)
    have q1 : ((0 : Int) ≤ (k : Int)) = True := eq_true (by omega)
    have hzk : ((k + 1 : Nat) : Int) = (k : Int) + 1 := by omega
    have hpk := rS k hlt
    have hqk := rQ k hlt
    have hlw := hlow k
    have hsame := hlw.same
    have hset := fun r h => hlw.set (r := r) h
    obtain ⟨n, S, mv, ov, e1, l1, k1, z1, a1⟩ := setAt_row (N := N) (stOf p k)
    obtain ⟨n', S', mv', ov', e2, l2, k2, z2, a2⟩ := setAt_row (N := N) (stOf (p.par v) k)
    rw [hsame, ← k1] at k2
    obtain rfl := k2.symm
    have hnN : n ≤ N := by rw [k1]; split <;> omega
    have hN4 : N ≤ 4096 := by omega
    clear k1
    rw [e1] at hpk
    rw [e2] at hqk
    generalize setAt (stOf p k) = fp at *
    generalize setAt (stOf (p.par v) k) = fq at *
    simp -implicitDefEqProofs only [go_sem, q0, q1, lS, zS, lQ, zQ, hpk, hqk, hlt, l1, l2, Option.some.injEq, forall_eq']
    repeat refine And.intro (by omega) ?_
    refine Run.keep [11, 10, 8, 6, 5, 2] ?_
    refine Run.rounds (fun (x : Nat) => ⟨[(11, .int .i64 x), (10, .int .i64 k), (8, .isl SQ), (6, .isl ST), (5, .ptr (3 * 10000 + 5) 1 0 0), (2, .ptr (3 * 10000 + 2) 0 0 0)], [((3 * 10000 + 5), 1, .rows 11 [qr]), ((3 * 10000 + 2), 0, .rows 11 [pr])], 2⟩) (fun x => x ≤ n) (fun x => n - x) 0 (by simp -implicitDefEqProofs only [go_sem]) (Nat.zero_le _) ?_
    intro r hr ih2
    refine Run.unf scriptinglaw36_VerifyParams_l1_eq (Run.go 100 ?_)
    by_cases hrl : r < n
    case neg =>
      have e : r = n := by omega
      subst e
      simp -implicitDefEqProofs only [go_sem, q0, q1, lS, zS, hpk, hlt, l1, Int.lt_irrefl, Option.some.injEq, forall_eq']
      repeat refine And.intro (by omega) ?_
      exact ih _ (k + 1) (by omega) (by omega) (by simp -implicitDefEqProofs only [go_sem, hzk])
    have v0 : ((r : Int) < (n : Int)) = True := eq_true (by omega)
    have v1 : ((0 : Int) ≤ (r : Int)) = True := eq_true (by omega)
    have hzr : ((r + 1 : Nat) : Int) = (r : Int) + 1 := by omega
    have hap := a1 r hrl
    have haq := a2 r hrl
    cases hfq : fq r with
    | false =>
      rw [hfq] at haq
      simp -implicitDefEqProofs only [go_sem, q0, q1, v0, v1, lS, zS, lQ, zQ, hpk, hqk, hlt, l1, l2, z2, haq, hrl, Option.some.injEq, forall_eq']
      repeat refine And.intro (by omega) ?_
      exact ih2 _ (r + 1) (by omega) (by omega) (by simp -implicitDefEqProofs only [go_sem, hzr])
    | true =>
      rw [hfq] at haq
      rw [hset r hfq] at hap
      simp -implicitDefEqProofs only [go_sem, q0, q1, v0, v1, lS, zS, lQ, zQ, hpk, hqk, hlt, l1, l2, z1, z2, haq, hap, hrl, Option.some.injEq, forall_eq']
      repeat refine And.intro (by omega) ?_
      exact ih2 _ (r + 1) (by omega) (by omega) (by simp -implicitDefEqProofs only [go_sem, hzr])
end Go.Proofs.YtppcibdjmnpdhaaGreatDoor
