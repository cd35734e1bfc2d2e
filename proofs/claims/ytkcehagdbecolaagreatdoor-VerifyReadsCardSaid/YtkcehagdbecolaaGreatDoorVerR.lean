/-
  VerifyReads: the walk. No condition.
-/
import Derived.Test.YtkcehagdbecolaaGreatDoorVerP5
import Derived.Test.YtkcehagdbecolaaGreatDoorVerEj
import Derived.Test.YtkcehagdbecolaaGreatDoorRrM
set_option linter.unusedVariables false
set_option linter.unusedSimpArgs false
set_option maxRecDepth 100000
set_option maxHeartbeats 0
namespace Go.Proofs.YtkcehagdbecolaaGreatDoor
open Go.Abs
attribute [local irreducible] CallS Run
-- EV: Ins.v, Ins.row

def setOf : Option Stt → Nat → Bool
  | none, _ => false
  | some s, r => s.set r
def opnOf : Option Stt → Int
  | none => 0
  | some s => s.opn
theorem stR_eq {N : Nat} {o : Option Stt} (h : N = 0 ∨ o.isSome = true) : ∃ mv, stR N o = [.isl (boolR N (setOf o)), .int .i64 (opnOf o), mv] := by
  cases o with
  | some s => exact ⟨_, rfl⟩
  | none =>
    rcases h with h | h
    · subst h; exact ⟨_, rfl⟩
    · cases h
theorem reads_some {p : Fn} (hs : Sound p) (hI : StIs p.regs.toNat p.code p.params (stOf p)) (hv : firstF p = -1) {a : Nat} (ha : a < p.code.length) (h : p.regs.toNat = 0 ∨ (stOf p a).isSome = true) :
    (∀ r ∈ (reads (insAt p.code a)).1, 0 ≤ r ∧ r < p.regs ∧ setOf (stOf p a) r.toNat = true) ∧ (0 < p.regs → ((0 ≤ (reads (insAt p.code a)).2) ↔ 0 ≤ opnOf (stOf p a))) ∧ opnOf (stOf p a) ≤ p.regs ∧
    ∀ r, 0 ≤ (reads (insAt p.code a)).2 → (reads (insAt p.code a)).2 ≤ r → r < opnOf (stOf p a) → setOf (stOf p a) r.toNat = true := by
  have hr := hs.reads _ (insAt_mem ha).2
  have hreg := hs.regs
  cases hm : stOf p a with
  | some s =>
    obtain ⟨h1, h2, h3⟩ := reads_law hs hI hv ha hm
    have ho := hI.opn hs.fit a s hm
    exact ⟨fun r hx => ⟨(hr r hx).1, (hr r hx).2, h1 r hx⟩, fun _ => h2, by simp only [opnOf]; omega, h3⟩
  | none =>
    rw [hm] at h
    have h0 : p.regs.toNat = 0 := h.elim id fun h => by cases h
    refine ⟨fun r hx => ?_, fun h => by omega, by simp only [opnOf]; omega, fun r h1 h2 h3 => ?_⟩
    · have := hr r hx; omega
    · simp only [opnOf] at h3; omega

theorem verifyReads_args (n0 : List V) (w0 : Typed Tryz.prog 29 n0) : Pure Tryz.prog 4 [.agg n0] (.bool true) := by
  obtain ⟨p, rfl, hp⟩ := fn_args w0
  have lp := vlarge_pure p hp
  obtain ⟨f1, f2⟩ := fn_row11 p
  have sp := Fn.row_sub lost p
  refine Pure.of 0 (CallS.enter scriptinglaw36_VerifyReads_ok (Nat.le_of_ble_eq_true rfl) (Run.go 100 ?_))
  cases hL : vlargeB p with
  | true =>
    rw [hL] at lp
    generalize p.row = pr at *
    simp -implicitDefEqProofs only [go_sem, Ins.v, Ins.row, initSl, f1, f2]
    refine CallS.pureF lp (by simp -implicitDefEqProofs only [go_sem, Ins.v, Ins.row, sp]) ?_
    simp -implicitDefEqProofs only [go_sem, Ins.v, Ins.row]
    refine CallS.pureF vlives_pure (by simp -implicitDefEqProofs only [go_sem, Ins.v, Ins.row]) ?_
    simp -implicitDefEqProofs only [go_sem, Ins.v, Ins.row]
  | false =>
    rw [hL] at lp
    have hS := small_of (Bool.or_eq_false_iff.1 hL).1
    have hb := hS.bd
    have hd : p.depth ≤ 900 := Nat.le_trans (Fn.depth_each p) (Nat.le_trans hS.count (by decide))
    have cc := vcheck_pure p hb hd
    by_cases ck : verE p = 0
    case neg =>
      generalize verE p = z at *
      generalize p.row = pr at *
      simp -implicitDefEqProofs only [go_sem, Ins.v, Ins.row, initSl, f1, f2]
      refine CallS.pureF lp (by simp -implicitDefEqProofs only [go_sem, Ins.v, Ins.row, sp]) ?_
      simp -implicitDefEqProofs only [go_sem, Ins.v, Ins.row, f1, f2]
      refine CallS.pureF cc (by simp -implicitDefEqProofs only [go_sem, Ins.v, Ins.row, sp]) ?_
      simp -implicitDefEqProofs only [go_sem, Ins.v, Ins.row, ck]
      refine CallS.pureF vlives_pure (by simp -implicitDefEqProofs only [go_sem, Ins.v, Ins.row]) ?_
      simp -implicitDefEqProofs only [go_sem, Ins.v, Ins.row]
    obtain ⟨hck, hfr⟩ := (verE_iff p).1 ck
    have hs := Sound.of hck
    have hv := hfr p (Fn.self_mem p)
    have cs := vstates_pure p hb hd
    rw [if_neg (fun h => h hck)] at cs
    rw [ck] at cc
    have hlaw := fun k hk h => reads_some hs (stM_is hs.code0) hv (a := k) hk h
    have hreg := hs.regs
    have hcl := hs.code
    obtain ⟨N, hN⟩ : ∃ N : Nat, p.regs = N := ⟨p.regs.toNat, by omega⟩
    have hNt : p.regs.toNat = N := by omega
    have h5 : p.row[5]? = some (.isl (p.code.map Ins.row)) := by rw [Fn.row_eq]; rfl
    have h4 : p.row[4]? = some (.int .i64 N) := by rw [Fn.row_eq, ← hN]; rfl
    have l5 : (p.code.map Ins.row).length = p.code.length := List.length_map ..
    have z5 := eq_true (rowsz_of Ins.row 5 (fun _ => rfl) p.code)
    have r5 : ∀ k, k < p.code.length → (p.code.map Ins.row)[k]? = some (insAt p.code k).row := fun k hk => by rw [List.getElem?_map, (insAt_mem hk).1]; rfl
    have lS : (stL p.regs.toNat p.code.length (stOf p)).length = p.code.length := by simp [stL]
    have zS : rowsz (stL p.regs.toNat p.code.length (stOf p)) 3 = True := eq_true fun r hr => by obtain ⟨a, _, rfl⟩ := List.mem_map.1 hr; exact stR_len _ _
    have rS : ∀ k, k < p.code.length → (stL p.regs.toNat p.code.length (stOf p))[k]? = some (stR p.regs.toNat (stOf p k)) := fun k hk => by unfold stL; rw [List.getElem?_map, List.getElem?_range hk]; rfl
    rw [hNt] at cs lS zS
    simp only [hNt] at rS hlaw
    rw [hN] at hlaw
    generalize stL N p.code.length (stOf p) = ST at *
    generalize p.code.map Ins.row = CR at *
    generalize p.row = pr at *
    simp -implicitDefEqProofs only [go_sem, Ins.v, Ins.row, initSl, f1, f2]
    refine CallS.pureF lp (by simp -implicitDefEqProofs only [go_sem, Ins.v, Ins.row, sp]) ?_
    simp -implicitDefEqProofs only [go_sem, Ins.v, Ins.row, f1, f2]
    refine CallS.pureF cc (by simp -implicitDefEqProofs only [go_sem, Ins.v, Ins.row, sp]) ?_
    simp -implicitDefEqProofs only [go_sem, Ins.v, Ins.row, f1, f2]
    refine CallS.pureF cs (by simp -implicitDefEqProofs only [go_sem, Ins.v, Ins.row, sp]) ?_
    simp -implicitDefEqProofs only [go_sem, Ins.v, Ins.row, f1, f2, h5, l5, lS]
    refine Run.keep [5, 3, 1] ?_
    refine Run.roundsK (fun (x : Nat × Nat) => ⟨[(5, .int .i64 x.1), (3, .isl ST), (1, .ptr (4 * 10000 + 1) 0 0 0)], [((4 * 10000 + 1), 0, .rows 11 [pr])], x.2⟩) (fun x => x.1 ≤ p.code.length) (fun x => p.code.length - x.1) (0, 1) (Weak.wk (Weak.of (by simp -implicitDefEqProofs only [go_sem, Ins.v, Ins.row]) (fun e he => he) (Nat.le_refl _))) (Nat.zero_le _) ?_
    rintro ⟨k, m⟩ hk ih
    simp only at hk ih ⊢
    refine Run.unf scriptinglaw36_VerifyReads_l0_eq (Run.go 100 ?_)
    by_cases hlt : k < p.code.length
    case neg =>
      have e : k = p.code.length := by omega
      subst e
      simp -implicitDefEqProofs only [go_sem, Ins.v, Ins.row, lS, Int.lt_irrefl]
      refine CallS.pureF vlives_pure (by simp -implicitDefEqProofs only [go_sem, Ins.v, Ins.row]) ?_
      simp -implicitDefEqProofs only [go_sem, Ins.v, Ins.row]
    have q0 : ((k : Int) < (p.code.length : Int)) = True := eq_true (by omega)
    have q1 : ((0 : Int) ≤ (k : Int)) = True := eq_true (by omega)
    have hzk : ((k + 1 : Nat) : Int) = (k : Int) + 1 := by omega
    have hrow := rS k hlt
    by_cases hno : N = 0 ∨ (stOf p k).isSome = true
    case neg =>
      have hn0 : ¬ ((0 : Int) = (N : Int)) := fun h => hno (.inl (by omega))
      have hnn : stOf p k = none := by
        cases hm : stOf p k with
        | none => rfl
        | some s => exact absurd (.inr (by rw [hm]; rfl)) hno
      rw [hnn] at hrow
      simp only [stR] at hrow
      simp -implicitDefEqProofs only [go_sem, Ins.v, Ins.row, q0, q1, lS, zS, hrow, hlt, f1, f2, h4, hn0, Option.some.injEq, forall_eq']
      refine ⟨by omega, ih _ (k + 1, m + 1) (by simp only; omega) (by simp only; omega) (Weak.wk (Weak.of (by simp -implicitDefEqProofs only [go_sem, Ins.v, Ins.row, hzk]) (fun e he => List.mem_cons_of_mem _ he) (Nat.le_refl _)))⟩
    obtain ⟨hl1, hl2, hl3, hl4⟩ := hlaw k hlt hno
    obtain ⟨mv, hst⟩ := stR_eq hno
    rw [hst] at hrow
    have hrd := rreads_pure (insAt p.code k)
    have hlen := boolR_len N (setOf (stOf p k))
    have hz := boolR_sz N (setOf (stOf p k))
    have hat := fun r (h : r < N) => boolR_at (f := setOf (stOf p k)) h
    have hir := r5 k hlt
    have hrl := reads_len (insAt p.code k)
    generalize boolR N (setOf (stOf p k)) = FSs at *
    generalize setOf (stOf p k) = fs at *
    generalize opnOf (stOf p k) = on at *
    generalize insAt p.code k = ik at *
    generalize (reads ik).2 = fr at *
    generalize (reads ik).1 = rl at *
    have hrls : ∀ (k : Nat) (x : Int), rl[k]? = some x → (rl.map zrw)[k]? = some [.int .i64 x] := fun k x h => zrw_at h
    have hrll : (rl.map zrw).length = rl.length := List.length_map ..
    have hrlz := rowszZ' rl
    generalize rl.map zrw = RLs at *
    simp -implicitDefEqProofs only [go_sem, Ins.v, Ins.row, q0, q1, lS, zS, hrow, hlt, f1, f2, h4, hlen, h5, l5, z5, hir, Option.some.injEq, forall_eq']
    refine CallS.pureF hrd (by simp -implicitDefEqProofs only [go_sem, Ins.v, Ins.row]) ?_
    simp -implicitDefEqProofs only [go_sem, Ins.v, Ins.row]
    refine Run.keep [9, 8, 7, 6, 5, 3, 1] ?_
    refine Run.roundsK (fun (x : Nat) => ⟨[(9, .int .i64 x), (8, .int .i64 fr), (7, .isl RLs), (6, .ptr (4 * 10000 + 6) m 0 0), (5, .int .i64 k), (3, .isl ST), (1, .ptr (4 * 10000 + 1) 0 0 0)], [((4 * 10000 + 6), m, .rows 3 [[.isl FSs, .int .i64 on, mv]]), ((4 * 10000 + 1), 0, .rows 11 [pr])], m + 1⟩) (fun x => x ≤ rl.length) (fun x => rl.length - x) 0 (Weak.wk (Weak.of (by simp -implicitDefEqProofs only [go_sem, Ins.v, Ins.row]) (fun e he => he) (Nat.le_refl _))) (Nat.zero_le _) ?_
    intro j hj ih2
    refine Run.unf scriptinglaw36_VerifyReads_l1_eq (Run.go 100 ?_)
    by_cases hjl : j < rl.length
    case pos =>
      have w0 : ((j : Int) < (rl.length : Int)) = True := eq_true (by omega)
      have w1 : ((0 : Int) ≤ (j : Int)) = True := eq_true (by omega)
      have hzj : ((j + 1 : Nat) : Int) = (j : Int) + 1 := by omega
      obtain ⟨x, hx⟩ : ∃ x, rl[j]? = some x := ⟨rl[j], by simp [hjl]⟩
      have hxr := hrls j x hx
      obtain ⟨hx0, hxN, hxs⟩ := hl1 x (List.mem_of_getElem? hx)
      obtain ⟨R, rfl⟩ : ∃ R : Nat, x = R := ⟨x.toNat, by omega⟩
      rw [Int.toNat_natCast] at hxs
      have hRN : R < N := by omega
      have hRN2 : ((R : Int) < (N : Int)) = True := eq_true (by omega)
      have hRN3 : ((N : Int) ≤ (R : Int)) = False := eq_false (by omega)
      have hR0 : ((0 : Int) ≤ (R : Int)) = True := eq_true (by omega)
      have hatR := hat R hRN
      rw [hxs] at hatR
      simp -implicitDefEqProofs only [go_sem, Ins.v, Ins.row, w0, w1, hrll, hrlz, hxr, hjl, hRN, hRN2, hRN3, hR0, hlen, hz, hatR, Option.some.injEq, forall_eq']
      repeat refine And.intro (by omega) ?_
      exact ih2 _ (j + 1) (by omega) (by omega) (Weak.wk (Weak.of (by simp -implicitDefEqProofs only [go_sem, Ins.v, Ins.row, hzj]) (fun e he => he) (Nat.le_refl _)))
    have e : j = rl.length := by omega
    have e2 : RLs.length = j := by omega
    by_cases hiff : (0 ≤ fr ↔ 0 ≤ on)
    · have hdec : decide (0 ≤ fr) = decide (0 ≤ on) := decide_eq_decide.2 hiff
      simp -implicitDefEqProofs only [go_sem, Ins.v, Ins.row, e2, Int.lt_irrefl, hdec]
      refine Run.keep [10, 6, 5, 3, 1] ?_
      refine Run.roundsK (fun (x : Int) => ⟨[(10, .int .i64 x), (6, .ptr (4 * 10000 + 6) m 0 0), (5, .int .i64 k), (3, .isl ST), (1, .ptr (4 * 10000 + 1) 0 0 0)], [((4 * 10000 + 6), m, .rows 3 [[.isl FSs, .int .i64 on, mv]]), ((4 * 10000 + 1), 0, .rows 11 [pr])], m + 1⟩) (fun x => (fr < 0 → x = fr) ∧ (0 ≤ fr → fr ≤ x)) (fun x => (on - x).toNat) fr (Weak.wk (Weak.of (by simp -implicitDefEqProofs only [go_sem, Ins.v, Ins.row]) (fun e he => he) (Nat.le_refl _))) ⟨fun _ => rfl, fun _ => Int.le_refl _⟩ ?_
      rintro r ⟨hr1, hr2⟩ ih3
      refine Run.unf scriptinglaw36_VerifyReads_l2_eq (Run.go 100 ?_)
      by_cases hr0 : 0 ≤ r
      case neg =>
        simp -implicitDefEqProofs only [go_sem, Ins.v, Ins.row, hr0]
        refine ⟨by omega, ih _ (k + 1, m + 1) (by simp only; omega) (by simp only; omega) (Weak.wk (Weak.of (by simp -implicitDefEqProofs only [go_sem, Ins.v, Ins.row, hzk]) (fun e he => List.mem_cons_of_mem _ he) (Nat.le_refl _)))⟩
      by_cases hro : r < on
      case neg =>
        simp -implicitDefEqProofs only [go_sem, Ins.v, Ins.row, hr0, hro]
        refine ⟨by omega, ih _ (k + 1, m + 1) (by simp only; omega) (by simp only; omega) (Weak.wk (Weak.of (by simp -implicitDefEqProofs only [go_sem, Ins.v, Ins.row, hzk]) (fun e he => List.mem_cons_of_mem _ he) (Nat.le_refl _)))⟩
      have hf0 : 0 ≤ fr := by omega
      obtain ⟨R, rfl⟩ : ∃ R : Nat, r = R := ⟨r.toNat, by omega⟩
      have hRN : R < N := by omega
      have hRN2 : ((R : Int) < (N : Int)) = True := eq_true (by omega)
      have hRN3 : ((N : Int) ≤ (R : Int)) = False := eq_false (by omega)
      have hfr := hl4 R hf0 (hr2 hf0) hro
      rw [Int.toNat_natCast] at hfr
      have hatR := hat R hRN
      rw [hfr] at hatR
      simp -implicitDefEqProofs only [go_sem, Ins.v, Ins.row, hr0, hro, hRN, hRN2, hRN3, hlen, hz, hatR, Option.some.injEq, forall_eq']
      refine ⟨by omega, ih3 _ ((R : Int) + 1) ⟨fun h => by omega, fun h => by have := hr2 h; omega⟩ (by omega) (Weak.wk (Weak.of (by simp -implicitDefEqProofs only [go_sem, Ins.v, Ins.row]) (fun e he => he) (Nat.le_refl _)))⟩
    · have hdec : (decide (0 ≤ fr) = decide (0 ≤ on)) = False := eq_false fun h => hiff (decide_eq_decide.1 h)
      have hN0 : ((0 : Int) < (N : Int)) = False := eq_false fun h => hiff (hl2 h)
      simp -implicitDefEqProofs only [go_sem, Ins.v, Ins.row, e2, Int.lt_irrefl, hdec, hN0, f1, f2, h4]
      refine Run.keep [10, 6, 5, 3, 1] ?_
      refine Run.roundsK (fun (x : Int) => ⟨[(10, .int .i64 x), (6, .ptr (4 * 10000 + 6) m 0 0), (5, .int .i64 k), (3, .isl ST), (1, .ptr (4 * 10000 + 1) 0 0 0)], [((4 * 10000 + 6), m, .rows 3 [[.isl FSs, .int .i64 on, mv]]), ((4 * 10000 + 1), 0, .rows 11 [pr])], m + 1⟩) (fun x => (fr < 0 → x = fr) ∧ (0 ≤ fr → fr ≤ x)) (fun x => (on - x).toNat) fr (Weak.wk (Weak.of (by simp -implicitDefEqProofs only [go_sem, Ins.v, Ins.row]) (fun e he => he) (Nat.le_refl _))) ⟨fun _ => rfl, fun _ => Int.le_refl _⟩ ?_
      rintro r ⟨hr1, hr2⟩ ih3
      refine Run.unf scriptinglaw36_VerifyReads_l2_eq (Run.go 100 ?_)
      by_cases hr0 : 0 ≤ r
      case neg =>
        simp -implicitDefEqProofs only [go_sem, Ins.v, Ins.row, hr0]
        refine ⟨by omega, ih _ (k + 1, m + 1) (by simp only; omega) (by simp only; omega) (Weak.wk (Weak.of (by simp -implicitDefEqProofs only [go_sem, Ins.v, Ins.row, hzk]) (fun e he => List.mem_cons_of_mem _ he) (Nat.le_refl _)))⟩
      by_cases hro : r < on
      case neg =>
        simp -implicitDefEqProofs only [go_sem, Ins.v, Ins.row, hr0, hro]
        refine ⟨by omega, ih _ (k + 1, m + 1) (by simp only; omega) (by simp only; omega) (Weak.wk (Weak.of (by simp -implicitDefEqProofs only [go_sem, Ins.v, Ins.row, hzk]) (fun e he => List.mem_cons_of_mem _ he) (Nat.le_refl _)))⟩
      have hf0 : 0 ≤ fr := by omega
      obtain ⟨R, rfl⟩ : ∃ R : Nat, r = R := ⟨r.toNat, by omega⟩
      have hRN : R < N := by omega
      have hRN2 : ((R : Int) < (N : Int)) = True := eq_true (by omega)
      have hRN3 : ((N : Int) ≤ (R : Int)) = False := eq_false (by omega)
      have hfr := hl4 R hf0 (hr2 hf0) hro
      rw [Int.toNat_natCast] at hfr
      have hatR := hat R hRN
      rw [hfr] at hatR
      simp -implicitDefEqProofs only [go_sem, Ins.v, Ins.row, hr0, hro, hRN, hRN2, hRN3, hlen, hz, hatR, Option.some.injEq, forall_eq']
      refine ⟨by omega, ih3 _ ((R : Int) + 1) ⟨fun h => by omega, fun h => by have := hr2 h; omega⟩ (by omega) (Weak.wk (Weak.of (by simp -implicitDefEqProofs only [go_sem, Ins.v, Ins.row]) (fun e he => he) (Nat.le_refl _)))⟩
end Go.Proofs.YtkcehagdbecolaaGreatDoor
