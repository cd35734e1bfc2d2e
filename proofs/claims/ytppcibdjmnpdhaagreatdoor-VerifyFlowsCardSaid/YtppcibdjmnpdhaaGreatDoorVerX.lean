/-
  VerifyFlows: the walk. No condition.
-/
import Derived.Test.YtppcibdjmnpdhaaGreatDoorVerP5
import Derived.Test.YtppcibdjmnpdhaaGreatDoorCodeX
import Derived.Test.YtppcibdjmnpdhaaGreatDoorVerEj
import Derived.Test.YtppcibdjmnpdhaaGreatDoorVerNn
import Derived.Test.YtppcibdjmnpdhaaGreatDoorRrM
import Derived.Test.YtppcibdjmnpdhaaGreatDoorFnRc
set_option linter.unusedVariables false
set_option linter.unusedSimpArgs false
set_option maxRecDepth 100000
set_option maxHeartbeats 0
namespace Go.Proofs.YtppcibdjmnpdhaaGreatDoor
open Go.Abs
attribute [local irreducible] CallS Run
-- EV: Ins.v, Ins.row
attribute [local go_sem] Ins.v Ins.row
theorem has_pure (l : List Int) (hl : l.length ≤ 1000000) (z : Int) : Pure Tryz.prog 13 [.isl (l.map zrw), .int .i64 z] (.bool (l.any fun x => decide (x = z))) := by
  have la : (l.map zrw).length = l.length := List.length_map ..
  have za := rowszZ' l
  have ra : ∀ (k : Nat) x, l[k]? = some x → (l.map zrw)[k]? = some [.int .i64 x] := fun k x h => zrw_at h
  generalize l.map zrw = A at *
  refine Pure.of 0 (CallS.enter scriptinglaw36_has_ok (Nat.le_of_ble_eq_true rfl) (Run.go 100 ?_))
  simp -implicitDefEqProofs only [go_sem, initSl]
  refine Run.rounds (fun (k : Nat) => ⟨[(5, .int .i64 k), (1, .int .i64 z), (0, .isl A)], [], 0⟩) (fun k => k ≤ l.length ∧ (l.take k).any (fun x => decide (x = z)) = false) (fun k => l.length - k) 0 (by simp -implicitDefEqProofs only [go_sem]) ⟨Nat.zero_le _, rfl⟩ ?_
  rintro k ⟨hk, hno⟩ ih
  refine Run.unf scriptinglaw36_has_l0_eq (Run.go 100 ?_)
  by_cases hlt : k < l.length
  · have q0 : ((k : Int) < (l.length : Int)) = True := eq_true (by omega)
    have q1 : ((0 : Int) ≤ (k : Int)) = True := eq_true (by omega)
    obtain ⟨x, hx⟩ : ∃ x, l[k]? = some x := ⟨l[k], by simp [hlt]⟩
    have hxr := ra k x hx
    have hzk : ((k + 1 : Nat) : Int) = (k : Int) + 1 := by omega
    by_cases hxz : x = z
    · have hany : l.any (fun x => decide (x = z)) = true := any_at hx (by simp [hxz])
      simp -implicitDefEqProofs only [go_sem, q0, q1, la, za, hxr, hlt, hxz, hany, Option.some.injEq, forall_eq']
    · simp -implicitDefEqProofs only [go_sem, q0, q1, la, za, hxr, hlt, hxz, Option.some.injEq, forall_eq']
      refine ⟨by omega, ih _ (k + 1) ⟨by omega, any_next hno hx (by simp [hxz])⟩ (by omega) (by simp -implicitDefEqProofs only [go_sem, hzk])⟩
  · have e : k = l.length := by omega
    subst e
    have hany := any_all hno
    simp -implicitDefEqProofs only [go_sem, la, Int.lt_irrefl, hany]
theorem verifyFlows_args (n0 : List V) (w0 : Typed Tryz.prog 29 n0) : Pure Tryz.prog 4 [.agg n0] (.bool true) := by
  obtain ⟨p, rfl, hp⟩ := fn_args w0
  have lp := vlarge_pure p hp
  obtain ⟨f1, f2⟩ := fn_row11 p
  have sp := Fn.row_sub lost p
  refine Pure.of 0 (CallS.enter scriptinglaw36_VerifyFlows_ok (Nat.le_of_ble_eq_true rfl) (Run.go 100 ?_))
  cases hL : vlargeB p with
  | true =>
    rw [hL] at lp
    generalize p.row = pr at *
    simp -implicitDefEqProofs only [go_sem, initSl, f1, f2]
    refine CallS.pureF lp (by simp -implicitDefEqProofs only [go_sem, sp]) ?_
    simp -implicitDefEqProofs only [go_sem]
    refine CallS.pureF vlives_pure (by simp -implicitDefEqProofs only [go_sem]) ?_
    simp -implicitDefEqProofs only [go_sem]
  | false =>
    rw [hL] at lp
    have hS := small_of (Bool.or_eq_false_iff.1 hL).1
    have hb := hS.bd
    have hc : p.each.length ≤ 1000000 := Nat.le_trans hS.count (by decide)
    have hd : p.depth ≤ 900 := Nat.le_trans (Fn.depth_each p) (Nat.le_trans hS.count (by decide))
    have cs := vstates_pure p hb hd
    by_cases ck : chkE p = 0
    case neg =>
      have cr := rcheck33_pure p hb hc
      rw [if_pos ck] at cs
      generalize chkE p = z at *
      generalize p.row = pr at *
      simp -implicitDefEqProofs only [go_sem, initSl, f1, f2]
      refine CallS.pureF lp (by simp -implicitDefEqProofs only [go_sem, sp]) ?_
      simp -implicitDefEqProofs only [go_sem, f1, f2]
      refine CallS.pureF cs (by simp -implicitDefEqProofs only [go_sem, sp]) ?_
      simp -implicitDefEqProofs only [go_sem, ck, f1, f2]
      refine CallS.pureF cr (by simp -implicitDefEqProofs only [go_sem, sp]) ?_
      simp -implicitDefEqProofs only [go_sem]
      refine CallS.pureF vlives_pure (by simp -implicitDefEqProofs only [go_sem]) ?_
      simp -implicitDefEqProofs only [go_sem]
    rw [if_neg (fun h => h ck)] at cs
    have hs := Sound.of ck
    have hI : StIs p.regs.toNat p.code p.params (stOf p) := stM_is hs.code0
    have hcl : p.code.length ≤ 400 := by have := (hS.parts p (Fn.self_mem p)).1; unfold parts at this; omega
    have hc0 := hs.code0
    have cr := rreach_of p (by omega)
    have cn := rnext_of p (by omega)
    have hin := fun a x (hx : x ∈ nextL p.code a) => nextL_in hx
    have hnl2 := fun a => nextL_len2 p.code a
    have hfst := hI.first
    have hpath := fun a (h : Path p.code a) => hI.path h
    have hnx := fun a s ha (hs : stOf p a = some s) t (ht : t ∈ nextL p.code a) => hI.next ha hs ht
    have hal := fun a s o (t : Int) ha (h1 : stOf p a = some s) ht (h2 : stOf p t.toNat = some o) r hr => hI.along hc0 ha h1 ht h2 (r := r) hr
    obtain ⟨N, hN⟩ : ∃ N : Nat, p.regs = N := ⟨p.regs.toNat, by have := hs.regs; omega⟩
    obtain ⟨P, hP⟩ : ∃ P : Nat, p.params = P := ⟨p.params.toNat, by have := hs.params; omega⟩
    have hNt : p.regs.toNat = N := by omega
    have hPN : P ≤ N := by have := hs.params; omega
    have hN4 : N ≤ 4096 := by have := hs.regs; omega
    have h5 : p.row[5]? = some (.isl (p.code.map Ins.row)) := by rw [Fn.row_eq]; rfl
    have h4 : p.row[4]? = some (.int .i64 N) := by rw [Fn.row_eq, ← hN]; rfl
    have h2 : p.row[2]? = some (.int .i64 P) := by rw [Fn.row_eq, ← hP]; rfl
    have l5 : (p.code.map Ins.row).length = p.code.length := List.length_map ..
    have z5 := eq_true (rowsz_of Ins.row 5 (fun _ => rfl) p.code)
    have r5 : ∀ k, k < p.code.length → (p.code.map Ins.row)[k]? = some (insAt p.code k).row := fun k hk => by rw [List.getElem?_map, (insAt_mem hk).1]; rfl
    have lR : ((reachL p.code).map brw).length = p.code.length := by rw [List.length_map, reachL_len]
    have zR := eq_true (rowsz_of brw 1 (fun _ => rfl) (reachL p.code))
    have rR : ∀ k, k < p.code.length → ((reachL p.code).map brw)[k]? = some [.bool (reachB p.code k)] := fun k hk => by rw [List.getElem?_map, reachL_at hk]; rfl
    have lS : (stL p.regs.toNat p.code.length (stOf p)).length = p.code.length := by simp [stL]
    have zS : rowsz (stL p.regs.toNat p.code.length (stOf p)) 3 = True := eq_true fun r hr => by obtain ⟨a, _, rfl⟩ := List.mem_map.1 hr; exact stR_len _ _
    have rS : ∀ k s, k < p.code.length → stOf p k = some s → (stL p.regs.toNat p.code.length (stOf p))[k]? = some [.isl (boolR p.regs.toNat s.set), .int .i64 s.opn, .isl (s.marks.map zrw)] := fun k s hk hm => by unfold stL; rw [List.getElem?_map, List.getElem?_range hk]; simp only [Option.map_some, hm]; rfl
    rw [hNt] at cs lS zS
    simp only [hNt] at rS
    rw [hP] at hfst
    obtain ⟨s0, hs0, hs0P⟩ := hfst
    have rS0 := rS 0 s0 hc0 hs0
    have hl0 := boolR_len N s0.set
    have hz0 := boolR_sz N s0.set
    have ha0 := fun r (h : r < N) => boolR_at (f := s0.set) h
    generalize stL N p.code.length (stOf p) = ST at *
    generalize boolR N s0.set = S0 at *
    generalize (reachL p.code).map brw = RL at *
    generalize p.code.map Ins.row = CR at *
    generalize p.row = pr at *
    have hcz : ((p.code.length : Int) = 0) = False := eq_false (by omega)
    have hcp : ((0 : Int) < (p.code.length : Int)) = True := eq_true (by omega)
    simp -implicitDefEqProofs only [go_sem, initSl, f1, f2]
    refine CallS.pureF lp (by simp -implicitDefEqProofs only [go_sem, sp]) ?_
    simp -implicitDefEqProofs only [go_sem, f1, f2]
    refine CallS.pureF cs (by simp -implicitDefEqProofs only [go_sem, sp]) ?_
    simp -implicitDefEqProofs only [go_sem, f1, f2, h5, l5, lS, hcz, hcp, zS, rS0, hc0, h4, h2, hl0, Option.some.injEq, forall_eq']
    refine Run.rounds (fun (x : Nat) => ⟨[(5, .int .i64 ((P + x : Nat) : Int)), (3, .isl ST), (1, .ptr (4 * 10000 + 1) 0 0 0)], [((4 * 10000 + 1), 0, .rows 11 [pr])], 1⟩) (fun x => P + x ≤ N) (fun x => N - (P + x)) 0 (by simp -implicitDefEqProofs only [go_sem, Nat.add_zero]) (by omega) ?_
    intro x hx ih
    refine Run.unf scriptinglaw36_VerifyFlows_l0_eq (Run.go 100 ?_)
    by_cases hlt : P + x < N
    case pos =>
      have q0 : (((P + x : Nat) : Int) < (N : Int)) = True := eq_true (by omega)
      have q1 : ((0 : Int) ≤ ((P + x : Nat) : Int)) = True := eq_true (by omega)
      have hsf : s0.set (P + x) = false := by
        cases hh : s0.set (P + x) with
        | false => rfl
        | true => have := hs0P _ hh; omega
      have hat := ha0 _ hlt
      rw [hsf] at hat
      have hzx : ((P + (x + 1) : Nat) : Int) = ((P + x : Nat) : Int) + 1 := by omega
      simp -implicitDefEqProofs only [go_sem, f1, f2, h4, q0, q1, lS, zS, hcp, hc0, rS0, hl0, hz0, hat, hlt, Option.some.injEq, forall_eq']
      repeat refine And.intro (by omega) ?_
      exact ih _ (x + 1) (by omega) (by omega) (by simp -implicitDefEqProofs only [go_sem, hzx])
    have e : P + x = N := by omega
    clear ih
    have q0 : (((P + x : Nat) : Int) < (N : Int)) = False := eq_false (by omega)
    simp -implicitDefEqProofs only [go_sem, f1, f2, h4, q0]
    refine CallS.pureF cr (by simp -implicitDefEqProofs only [go_sem, sp]) ?_
    simp -implicitDefEqProofs only [go_sem]
    refine Run.keep [7, 6, 3, 1] ?_
    refine Run.rounds (fun (x : Nat) => ⟨[(7, .int .i64 x), (6, .isl RL), (3, .isl ST), (1, .ptr (4 * 10000 + 1) 0 0 0)], [((4 * 10000 + 1), 0, .rows 11 [pr])], 1⟩) (fun x => x ≤ p.code.length) (fun x => p.code.length - x) 0 (by simp -implicitDefEqProofs only [go_sem]) (Nat.zero_le _) ?_
    intro k hk ih
    refine Run.unf scriptinglaw36_VerifyFlows_l1_eq (Run.go 100 ?_)
    by_cases hlt : k < p.code.length
    case neg =>
      have e : k = p.code.length := by omega
      subst e
      simp -implicitDefEqProofs only [go_sem, lS, Int.lt_irrefl]
      refine CallS.pureF vlives_pure (by simp -implicitDefEqProofs only [go_sem]) ?_
      simp -implicitDefEqProofs only [go_sem]
    have q0 : ((k : Int) < (p.code.length : Int)) = True := eq_true (by omega)
    have q1 : ((0 : Int) ≤ (k : Int)) = True := eq_true (by omega)
    have hzk : ((k + 1 : Nat) : Int) = (k : Int) + 1 := by omega
    have hrr := rR k hlt
    have cn := cn k
    have hin := hin k
    have hnl2 := hnl2 k
    have hnx := hnx k
    have hal := hal k
    have hir := r5 k hlt
    have cw := rwrites_pure (insAt p.code k)
    have hwl := writes_len (insAt p.code k)
    have hhas := has_pure (writes (insAt p.code k)).1 hwl
    generalize hnl : nextL p.code k = nl at *
    have hnls : ∀ (k : Nat) (x : Int), nl[k]? = some x → (nl.map zrw)[k]? = some [.int .i64 x] := fun k x h => zrw_at h
    have hnll : (nl.map zrw).length = nl.length := List.length_map ..
    have hnlz := rowszZ' nl
    have hwsub := zrw_sub lost (writes (insAt p.code k)).1
    generalize nl.map zrw = nls at *
    generalize (writes (insAt p.code k)).2 = wf at *
    generalize (writes (insAt p.code k)).1 = wl at *
    generalize wl.map zrw = WL at *
    generalize insAt p.code k = ik at *
    simp -implicitDefEqProofs only [go_sem, f1, f2, h5, l5, lS, q0, q1, Option.some.injEq, forall_eq']
    refine CallS.pureF cn (by simp -implicitDefEqProofs only [go_sem, sp]) ?_
    simp -implicitDefEqProofs only [go_sem, f1, f2, h5, l5, z5, q0, q1, hir, hlt, Option.some.injEq, forall_eq']
    refine CallS.pureF cw (by simp -implicitDefEqProofs only [go_sem]) ?_
    cases hre : reachB p.code k with
    | false =>
      rw [hre] at hrr
      simp -implicitDefEqProofs only [go_sem]
      refine Run.rounds (fun (x : Nat) => ⟨[(11, .int .i64 0), (9, .isl WL), (8, .isl nls), (7, .int .i64 k), (6, .isl RL), (3, .isl ST), (1, .ptr (4 * 10000 + 1) 0 0 0)], [((4 * 10000 + 1), 0, .rows 11 [pr])], 1⟩) (fun _ => True) (fun _ => 0) 0 (by simp -implicitDefEqProofs only [go_sem]) trivial ?_
      intro x _ _
      refine Run.unf scriptinglaw36_VerifyFlows_l2_eq (Run.go 100 ?_)
      by_cases hn0 : (0 : Int) < (nl.length : Int)
      · simp -implicitDefEqProofs only [go_sem, hnll, hn0, q0, q1, lR, zR, hrr, hlt, Option.some.injEq, forall_eq']
        refine ⟨by omega, ih _ (k + 1) (by omega) (by omega) (by simp -implicitDefEqProofs only [go_sem, hzk])⟩
      · simp -implicitDefEqProofs only [go_sem, hnll, hn0]
        refine ⟨by omega, ih _ (k + 1) (by omega) (by omega) (by simp -implicitDefEqProofs only [go_sem, hzk])⟩
    | true =>
    rw [hre] at hrr
    obtain ⟨_, s, hsk⟩ := hpath k (reachB_iff.1 hre)
    simp -implicitDefEqProofs only [go_sem]
    refine Run.keep [11, 9, 8, 7, 6, 3, 1] ?_
    have rSk := rS k s hlt hsk
    have hls := boolR_len N s.set
    have hzs := boolR_sz N s.set
    have has := fun r (h : r < N) => boolR_at (f := s.set) h
    generalize boolR N s.set = SS at *
    refine Run.rounds (fun (x : Nat) => ⟨[(11, .int .i64 x), (9, .isl WL), (8, .isl nls), (7, .int .i64 k), (6, .isl RL), (3, .isl ST), (1, .ptr (4 * 10000 + 1) 0 0 0)], [((4 * 10000 + 1), 0, .rows 11 [pr])], 1⟩) (fun x => x ≤ nl.length) (fun x => nl.length - x) 0 (by simp -implicitDefEqProofs only [go_sem]) (Nat.zero_le _) ?_
    intro j hj ih2
    refine Run.unf scriptinglaw36_VerifyFlows_l2_eq (Run.go 100 ?_)
    by_cases hjl : j < nl.length
    case neg =>
      have e : j = nl.length := by omega
      have e2 : nls.length = j := by omega
      simp -implicitDefEqProofs only [go_sem, e2, Int.lt_irrefl]
      refine ⟨by omega, ih _ (k + 1) (by omega) (by omega) (by simp -implicitDefEqProofs only [go_sem, hzk])⟩
    have w0 : ((j : Int) < (nl.length : Int)) = True := eq_true (by omega)
    have w1 : ((0 : Int) ≤ (j : Int)) = True := eq_true (by omega)
    have hzj : ((j + 1 : Nat) : Int) = (j : Int) + 1 := by omega
    obtain ⟨t, ht⟩ : ∃ x, nl[j]? = some x := ⟨nl[j], by simp [hjl]⟩
    have htr := hnls j t ht
    have htm := List.mem_of_getElem? ht
    obtain ⟨ht0, htn⟩ := hin t htm
    obtain ⟨o, ho⟩ := hnx s hlt hsk t htm
    have halo := fun r => hal s o t hlt hsk htm ho r
    obtain ⟨B, rfl⟩ : ∃ B : Nat, t = B := ⟨t.toNat, by omega⟩
    rw [Int.toNat_natCast] at ho
    have hBn : B < p.code.length := by omega
    have hB0 : ((0 : Int) ≤ (B : Int)) = True := eq_true (by omega)
    have hBn2 : ((B : Int) < (p.code.length : Int)) = True := eq_true (by omega)
    have rSB := rS B o hBn ho
    have hlo := boolR_len N o.set
    have hzo := boolR_sz N o.set
    have hao := fun r (h : r < N) => boolR_at (f := o.set) h
    generalize boolR N o.set = OS at *
    simp -implicitDefEqProofs only [go_sem, w0, w1, hnll, hnlz, htr, hjl, q0, q1, lR, zR, hrr, hlt, lS, zS, rSB, rSk, hBn, hB0, hBn2, hlo, hls, f1, f2, h4, Option.some.injEq, forall_eq']
    repeat refine And.intro (by omega) ?_
    refine Run.keep [12, 11, 9, 8, 7, 6, 3, 1] ?_
    refine Run.rounds (fun (x : Nat) => ⟨[(12, .int .i64 x), (11, .int .i64 j), (9, .isl WL), (8, .isl nls), (7, .int .i64 k), (6, .isl RL), (3, .isl ST), (1, .ptr (4 * 10000 + 1) 0 0 0)], [((4 * 10000 + 1), 0, .rows 11 [pr])], 1⟩) (fun x => x ≤ N) (fun x => N - x) 0 (by simp -implicitDefEqProofs only [go_sem]) (Nat.zero_le _) ?_
    intro r hr ih3
    refine Run.unf scriptinglaw36_VerifyFlows_l3_eq (Run.go 100 ?_)
    by_cases hrl : r < N
    case neg =>
      have e : r = N := by omega
      subst e
      simp -implicitDefEqProofs only [go_sem, f1, f2, h4, Int.lt_irrefl]
      refine ⟨by omega, ih2 _ (j + 1) (by omega) (by omega) (by simp -implicitDefEqProofs only [go_sem, hzj])⟩
    have v0 : ((r : Int) < (N : Int)) = True := eq_true (by omega)
    have v1 : ((0 : Int) ≤ (r : Int)) = True := eq_true (by omega)
    have hzr : ((r + 1 : Nat) : Int) = (r : Int) + 1 := by omega
    have har := halo r
    have hatO := hao r hrl
    have hatS := has r hrl
    have hh := hhas (r : Int)
    cases hor : o.set r with
    | false =>
      rw [hor] at hatO
      simp -implicitDefEqProofs only [go_sem, f1, f2, h4, v0, v1, w0, w1, hnll, hnlz, htr, hjl, lS, zS, rSB, hBn, hB0, hBn2, hlo, hzo, hatO, hrl, Option.some.injEq, forall_eq']
      repeat refine And.intro (by omega) ?_
      exact ih3 _ (r + 1) (by omega) (by omega) (by simp -implicitDefEqProofs only [go_sem, hzr])
    | true =>
    rw [hor] at hatO
    cases hsr : s.set r with
    | true =>
      rw [hsr] at hatS
      simp -implicitDefEqProofs only [go_sem, f1, f2, h4, v0, v1, w0, w1, q0, q1, hlt, hnll, hnlz, htr, hjl, lS, zS, rSB, rSk, hBn, hB0, hBn2, hlo, hzo, hls, hzs, hatO, hatS, hrl, Option.some.injEq, forall_eq']
      repeat refine And.intro (by omega) ?_
      exact ih3 _ (r + 1) (by omega) (by omega) (by simp -implicitDefEqProofs only [go_sem, hzr])
    | false =>
    rw [hsr] at hatS
    have hany : (wl.any fun x => decide (x = (r : Int))) = true := by
      rcases har hor with h | h
      · rw [hsr] at h; cases h
      · exact List.any_eq_true.2 ⟨_, h, by simp⟩
    rw [hany] at hh
    simp -implicitDefEqProofs only [go_sem, f1, f2, h4, v0, v1, w0, w1, q0, q1, hlt, hnll, hnlz, htr, hjl, lS, zS, rSB, rSk, hBn, hB0, hBn2, hlo, hzo, hls, hzs, hatO, hatS, hrl, Option.some.injEq, forall_eq']
    repeat refine And.intro (by omega) ?_
    refine CallS.pureF hh (by simp -implicitDefEqProofs only [go_sem, hwsub]) ?_
    simp -implicitDefEqProofs only [go_sem]
    repeat refine And.intro (by omega) ?_
    exact ih3 _ (r + 1) (by omega) (by omega) (by simp -implicitDefEqProofs only [go_sem, hzr])
end Go.Proofs.YtppcibdjmnpdhaaGreatDoor
