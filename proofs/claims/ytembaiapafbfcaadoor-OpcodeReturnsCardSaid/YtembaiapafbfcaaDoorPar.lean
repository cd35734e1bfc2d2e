/-
  What opcode.Parse answers. No condition.
-/
import Derived.Test.YtembaiapafbfcaaDoorTxt
set_option linter.unusedVariables false
set_option linter.unusedSimpArgs false
set_option maxRecDepth 100000
set_option maxHeartbeats 0
namespace Go.Proofs.YtembaiapafbfcaaDoor
open Go Go.Abs
attribute [local irreducible] CallS Run
-- EV: Ins.v, Ins.row, Frm.v, Frm.row

def zI : V := .agg [.int .i64 0, .int .i64 0, .int .i64 0, .int .i64 0, .int .i64 0]
/-- What a text is parsed to. -/
def parseI (op : Int) (s : List UInt8) : Option (List Int × List (List UInt8)) → V
  | some ([a, b, c, d], []) => if textL ⟨op, a, b, c, d⟩ = s then (if chk ⟨op, a, b, c, d⟩ = 0 then .tup [Ins.v ⟨op, a, b, c, d⟩, .int .i64 0] else .tup [zI, .int .i64 (chk ⟨op, a, b, c, d⟩)]) else .tup [zI, .int .i64 4]
  | _ => .tup [zI, .int .i64 4]
def parseV (s : List UInt8) : V :=
  match Lib.split s [32] with
  | [] => .tup [zI, .int .i64 9]
  | w :: r => if 0 ≤ idxV wordT w then parseI (idxV wordT w + 1) s (readL (frm (idxV wordT w + 1)).ks r) else .tup [zI, .int .i64 9]
theorem split_ne (s : List UInt8) : Lib.split s [32] ≠ [] := by
  unfold Lib.split
  cases Lib.count s [32] with
  | zero => simp [Lib.splitK]
  | succ k => rw [Lib.splitK]; split <;> simp

/-- What the loop of 'Parse' has read before its field k. -/
def InvP (T : Option (List Int × List (List UInt8))) (k1 k2 k3 k4 a b c d : Int) (L : List (List UInt8)) : Nat → Prop
  | 0 => a = 0 ∧ b = 0 ∧ c = 0 ∧ d = 0 ∧ T = readL [k1, k2, k3, k4] L
  | 1 => b = 0 ∧ c = 0 ∧ d = 0 ∧ T = (readL [k2, k3, k4] L).map fun p => (a :: p.1, p.2)
  | 2 => c = 0 ∧ d = 0 ∧ T = (readL [k3, k4] L).map fun p => (a :: b :: p.1, p.2)
  | 3 => d = 0 ∧ T = (readL [k4] L).map fun p => (a :: b :: c :: p.1, p.2)
  | _ => T = some ([a, b, c, d], L)
theorem readL_zero {ks : List Int} {L : List (List UInt8)} : readL (0 :: ks) L = (readL ks L).map fun p => (0 :: p.1, p.2) := by rw [readL.eq_def]; simp
theorem readL_nil {k : Int} {ks : List Int} (h : ¬ k = 0) : readL (k :: ks) [] = none := by rw [readL.eq_def]; simp [h]
theorem readL_ok {k : Int} {ks : List Int} {w : List UInt8} {r : List (List UInt8)} {n : Int} (h : ¬ k = 0) (hn : Lib.atoiAll w = .ok n) : readL (k :: ks) (w :: r) = (readL ks r).map fun p => (n :: p.1, p.2) := by rw [readL.eq_def]; simp [h, hn]
theorem readL_err {k : Int} {ks : List Int} {w : List UInt8} {r : List (List UInt8)} (h : ¬ k = 0) (hn : ∀ n, Lib.atoiAll w ≠ .ok n) : readL (k :: ks) (w :: r) = none := by
  rw [readL.eq_def]
  simp only [h, if_false]
  all_goals
    cases ha : Lib.atoiAll w with
    | ok n => exact absurd ha (hn n)
    | range => rfl
    | _ => rfl
theorem readL_done {L : List (List UInt8)} : readL [] L = some ([], L) := rfl
theorem atoi_err {w : List UInt8} (h : ∀ n, Lib.atoiAll w ≠ .ok n) : ∃ z, atoiV w = .tup [.int .i64 z, .err] := by
  unfold atoiV
  cases ha : Lib.atoiAll w with
  | ok n => exact absurd ha (h n)
  | range => exact ⟨_, rfl⟩
  | _ => exact ⟨_, rfl⟩

theorem parse_pure (s : List UInt8) (hs : s.length ≤ 100000) : Abs.Pure Tryd.prog 7 [.str s] (parseV s) := by
  have hsp := split_pure s hs
  rw [splitL_eq] at hsp
  have hlen := fun w (h : w ∈ Lib.split s [32]) => split_len h
  unfold parseV
  cases hl : Lib.split s [32] with
  | nil => exact absurd hl (split_ne s)
  | cons w r =>
  rw [hl] at hsp hlen
  have hop := op_pure w
  have hof := of_pure (idxV wordT w + 1)
  simp only
  generalize hix : idxV wordT w = ix at *
  refine Pure.of 0 (CallS.enter opcode_Parse_ok (Nat.le_of_ble_eq_true rfl) (Run.go 100 ?_))
  simp -implicitDefEqProofs only [go_sem, Ins.v, Ins.row, Frm.v, Frm.row, initSl]
  refine CallS.pureF hsp (by simp -implicitDefEqProofs only [go_sem, Ins.v, Ins.row, Frm.v, Frm.row]) ?_
  have hz : ∀ l : List (List UInt8), rowsz (l.map fun x => [V.str x]) 1 = True := fun l => eq_true fun r hr => by obtain ⟨y, _, rfl⟩ := List.mem_map.1 hr; rfl
  have hll : ∀ l : List (List UInt8), (l.map fun x => [V.str x]).length = l.length := fun l => List.length_map ..
  have hp1 : ((0 : Int) < ((r.length + 1 : Nat) : Int)) = True := eq_true (by omega)
  have hp2 : ((1 : Int) ≤ ((r.length + 1 : Nat) : Int)) = True := eq_true (by omega)
  simp -implicitDefEqProofs only [go_sem, Ins.v, Ins.row, Frm.v, Frm.row, List.map_cons, hz, hll, hp1]
  refine CallS.pureF hop (by simp -implicitDefEqProofs only [go_sem, Ins.v, Ins.row, Frm.v, Frm.row]) ?_
  by_cases h0 : 0 ≤ ix
  case neg =>
    rw [if_neg h0]
    simp -implicitDefEqProofs only [go_sem, Ins.v, Ins.row, Frm.v, Frm.row, h0]
    rfl
  rw [if_pos h0]
  have hfl := fun i => fieldsP_pure (frm (ix + 1)) i
  simp -implicitDefEqProofs only [go_sem, Ins.v, Ins.row, Frm.v, Frm.row, h0]
  refine CallS.pureF hof (by simp -implicitDefEqProofs only [go_sem, Ins.v, Ins.row, Frm.v, Frm.row]) ?_
  simp -implicitDefEqProofs only [go_sem, Ins.v, Ins.row, Frm.v, Frm.row]
  refine CallS.pureF (hfl ⟨ix + 1, 0, 0, 0, 0⟩) (by simp -implicitDefEqProofs only [go_sem, Ins.v, Ins.row, Frm.v, Frm.row]) ?_
  simp -implicitDefEqProofs only [go_sem, Ins.v, Ins.row, Frm.v, Frm.row, intsV, Frm.ks, Ins.fs, hp2]
  have htk : List.take ((((r.length + 1 : Nat) : Int) - 1).toNat) (r.map fun x => [V.str x]) = r.map fun x => [V.str x] := List.take_of_length_le (by rw [hll]; omega)
  rw [htk]
  refine ⟨of_eq_true (hz r), Int.le_refl _, ?_⟩
  have hT : InvP (readL [(frm (ix + 1)).a, (frm (ix + 1)).b, (frm (ix + 1)).c, (frm (ix + 1)).d] r) (frm (ix + 1)).a (frm (ix + 1)).b (frm (ix + 1)).c (frm (ix + 1)).d 0 0 0 0 r 0 := ⟨rfl, rfl, rfl, rfl, rfl⟩
  generalize (readL [(frm (ix + 1)).a, (frm (ix + 1)).b, (frm (ix + 1)).c, (frm (ix + 1)).d] r) = T at *
  generalize (frm (ix + 1)).a = k1 at *
  generalize (frm (ix + 1)).b = k2 at *
  generalize (frm (ix + 1)).c = k3 at *
  generalize (frm (ix + 1)).d = k4 at *
  generalize hopp : ix + 1 = op at *
  have hbz : inB 0 := ⟨by omega, by omega⟩
  refine Run.keep [50, 49, 48, 10, 7, 4, 2, 0] ?_
  refine Run.roundsK (fun (x : Nat × (Int × Int × Int × Int) × List (List UInt8) × Nat) => ⟨[(50, .int .i64 x.1), (49, .int .i64 4), (48, .sl (7 * 10000 + 48) 5 0 4), (10, .ptr (7 * 10000 + 10) 3 0 0), (7, .ptr (7 * 10000 + 7) 1 0 0), (4, .isl (x.2.2.1.map fun x => [V.str x])), (2, .ptr (7 * 10000 + 2) 0 0 0), (0, .str s)],
      [((7 * 10000 + 48), 5, .rows 1 [[.ptr (7 * 10000 + 7) 1 0 1], [.ptr (7 * 10000 + 7) 1 0 2], [.ptr (7 * 10000 + 7) 1 0 3], [.ptr (7 * 10000 + 7) 1 0 4]]), ((7 * 10000 + 10), 3, .rows 4 [[.int .i64 k1, .int .i64 k2, .int .i64 k3, .int .i64 k4]]), ((7 * 10000 + 7), 1, .rows 5 [[.int .i64 op, .int .i64 x.2.1.1, .int .i64 x.2.1.2.1, .int .i64 x.2.1.2.2.1, .int .i64 x.2.1.2.2.2]]), ((7 * 10000 + 2), 0, .rows 5 [[.int .i64 0, .int .i64 0, .int .i64 0, .int .i64 0, .int .i64 0]])], x.2.2.2⟩)
    (fun x => x.1 ≤ 4 ∧ InvP T k1 k2 k3 k4 x.2.1.1 x.2.1.2.1 x.2.1.2.2.1 x.2.1.2.2.2 x.2.2.1 x.1 ∧ (inB x.2.1.1 ∧ inB x.2.1.2.1 ∧ inB x.2.1.2.2.1 ∧ inB x.2.1.2.2.2) ∧ ∀ w ∈ x.2.2.1, w.length ≤ 100000) (fun x => 4 - x.1) (0, (0, 0, 0, 0), r, 6) (Weak.wk ⟨slotsW_iff.1 (by simp -implicitDefEqProofs only [go_sem, Ins.v, Ins.row, Frm.v, Frm.row]), fun e he => by simp only [List.mem_cons, List.not_mem_nil, or_false] at he ⊢; rcases he with h | h | h | h <;> simp only [h, eq_self, true_or, or_true], Nat.le_refl _⟩) ⟨Nat.zero_le _, hT, ⟨hbz, hbz, hbz, hbz⟩, fun w hw => Nat.le_trans (hlen w (List.mem_cons_of_mem _ hw)) hs⟩ ?_
  clear hT hlen hsp hl htk
  rintro ⟨k, ⟨a, b, c, d⟩, L, m⟩ ⟨hk, hI, ⟨hb1, hb2, hb3, hb4⟩, hw⟩ ih
  simp only at hk hI hb1 hb2 hb3 hb4 hw ih ⊢
  refine Run.unf opcode_Parse_l0_eq (Run.go 100 ?_)
  have hkk : k = 0 ∨ k = 1 ∨ k = 2 ∨ k = 3 ∨ k = 4 := by omega
  rcases hkk with rfl | rfl | rfl | rfl | rfl
  · obtain ⟨rfl, rfl, rfl, rfl, hI⟩ := hI
    by_cases hz0 : k1 = 0
    · subst hz0
      rw [readL_zero] at hI
      simp -implicitDefEqProofs only [go_sem, Ins.v, Ins.row, Frm.v, Frm.row, Option.some.injEq, forall_eq']
      refine ih _ (1, (0, 0, 0, 0), L, m) ⟨by simp only; omega, ⟨rfl, rfl, rfl, ?_⟩, ⟨hbz, hbz, hbz, hbz⟩, hw⟩ (by simp only; omega) (Weak.wk ⟨slotsW_iff.1 (by simp -implicitDefEqProofs only [go_sem, Ins.v, Ins.row, Frm.v, Frm.row]), fun e he => by simp only [List.mem_cons, List.not_mem_nil, or_false] at he ⊢; rcases he with h | h | h | h <;> simp only [h, eq_self, true_or, or_true], Nat.le_refl _⟩)
      first | exact hI | (rw [hI]; cases readL [k2, k3, k4] L <;> rfl)
    cases L with
    | nil =>
      rw [readL_nil hz0] at hI
      simp -implicitDefEqProofs only [go_sem, Ins.v, Ins.row, Frm.v, Frm.row, hz0, List.map_nil, Option.some.injEq, forall_eq']
      rw [hI]; rfl
    | cons w r =>
      have hwl := hw w List.mem_cons_self
      have hq1 : ((0 : Int) < ((r.length + 1 : Nat) : Int)) = True := eq_true (by omega)
      have hq2 : ((1 : Int) ≤ ((r.length + 1 : Nat) : Int)) = True := eq_true (by omega)
      have hq3 : (((r.length + 1 : Nat) : Int) = 0) = False := eq_false (by omega)
      have htk : List.take ((((r.length + 1 : Nat) : Int) - 1).toNat) (r.map fun x => [V.str x]) = r.map fun x => [V.str x] := List.take_of_length_le (by rw [hll]; omega)
      have hat := atoiE_pure w hwl
      by_cases hok : ∃ n, Lib.atoiAll w = .ok n
      · obtain ⟨n, hn⟩ := hok
        have hnb : inB n := Lib.atoiAll_bounds hn
        rw [show atoiV w = .tup [.int .i64 n, .cst .nilIface] by unfold atoiV; rw [hn]] at hat
        rw [readL_ok hz0 hn] at hI
        simp -implicitDefEqProofs only [go_sem, Ins.v, Ins.row, Frm.v, Frm.row, hz0, List.map_cons, hz, hll, hq1, hq3, Option.some.injEq, forall_eq']
        refine CallS.pureF hat (by simp -implicitDefEqProofs only [go_sem, Ins.v, Ins.row, Frm.v, Frm.row]) ?_
        simp -implicitDefEqProofs only [go_sem, Ins.v, Ins.row, Frm.v, Frm.row, hz, hll, hq2, htk, Option.some.injEq, forall_eq']
        refine ⟨by omega, ih _ (1, (n, 0, 0, 0), r, m) ⟨by simp only; omega, ⟨rfl, rfl, rfl, ?_⟩, ⟨hnb, hbz, hbz, hbz⟩, fun w hw' => hw w (List.mem_cons_of_mem _ hw')⟩ (by simp only; omega) (Weak.wk ⟨slotsW_iff.1 (by simp -implicitDefEqProofs only [go_sem, Ins.v, Ins.row, Frm.v, Frm.row]), fun e he => by simp only [List.mem_cons, List.not_mem_nil, or_false] at he ⊢; rcases he with h | h | h | h <;> simp only [h, eq_self, true_or, or_true], Nat.le_refl _⟩)⟩
        first | exact hI | (rw [hI]; cases readL [k2, k3, k4] r <;> rfl)
      · have hok : ∀ n, Lib.atoiAll w ≠ .ok n := fun n hn => hok ⟨n, hn⟩
        obtain ⟨z, hz2⟩ := atoi_err hok
        rw [hz2] at hat
        rw [readL_err hz0 hok] at hI
        simp -implicitDefEqProofs only [go_sem, Ins.v, Ins.row, Frm.v, Frm.row, hz0, List.map_cons, hz, hll, hq1, hq3, Option.some.injEq, forall_eq']
        refine CallS.pureF hat (by simp -implicitDefEqProofs only [go_sem, Ins.v, Ins.row, Frm.v, Frm.row]) ?_
        simp -implicitDefEqProofs only [go_sem, Ins.v, Ins.row, Frm.v, Frm.row]
        rw [hI]; rfl
  · obtain ⟨rfl, rfl, rfl, hI⟩ := hI
    by_cases hz0 : k2 = 0
    · subst hz0
      rw [readL_zero] at hI
      simp -implicitDefEqProofs only [go_sem, Ins.v, Ins.row, Frm.v, Frm.row, Option.some.injEq, forall_eq']
      refine ih _ (2, (a, 0, 0, 0), L, m) ⟨by simp only; omega, ⟨rfl, rfl, ?_⟩, ⟨hb1, hbz, hbz, hbz⟩, hw⟩ (by simp only; omega) (Weak.wk ⟨slotsW_iff.1 (by simp -implicitDefEqProofs only [go_sem, Ins.v, Ins.row, Frm.v, Frm.row]), fun e he => by simp only [List.mem_cons, List.not_mem_nil, or_false] at he ⊢; rcases he with h | h | h | h <;> simp only [h, eq_self, true_or, or_true], Nat.le_refl _⟩)
      first | exact hI | (rw [hI]; cases readL [k3, k4] L <;> rfl)
    cases L with
    | nil =>
      rw [readL_nil hz0] at hI
      simp -implicitDefEqProofs only [go_sem, Ins.v, Ins.row, Frm.v, Frm.row, hz0, List.map_nil, Option.some.injEq, forall_eq']
      rw [hI]; rfl
    | cons w r =>
      have hwl := hw w List.mem_cons_self
      have hq1 : ((0 : Int) < ((r.length + 1 : Nat) : Int)) = True := eq_true (by omega)
      have hq2 : ((1 : Int) ≤ ((r.length + 1 : Nat) : Int)) = True := eq_true (by omega)
      have hq3 : (((r.length + 1 : Nat) : Int) = 0) = False := eq_false (by omega)
      have htk : List.take ((((r.length + 1 : Nat) : Int) - 1).toNat) (r.map fun x => [V.str x]) = r.map fun x => [V.str x] := List.take_of_length_le (by rw [hll]; omega)
      have hat := atoiE_pure w hwl
      by_cases hok : ∃ n, Lib.atoiAll w = .ok n
      · obtain ⟨n, hn⟩ := hok
        have hnb : inB n := Lib.atoiAll_bounds hn
        rw [show atoiV w = .tup [.int .i64 n, .cst .nilIface] by unfold atoiV; rw [hn]] at hat
        rw [readL_ok hz0 hn] at hI
        simp -implicitDefEqProofs only [go_sem, Ins.v, Ins.row, Frm.v, Frm.row, hz0, List.map_cons, hz, hll, hq1, hq3, Option.some.injEq, forall_eq']
        refine CallS.pureF hat (by simp -implicitDefEqProofs only [go_sem, Ins.v, Ins.row, Frm.v, Frm.row]) ?_
        simp -implicitDefEqProofs only [go_sem, Ins.v, Ins.row, Frm.v, Frm.row, hz, hll, hq2, htk, Option.some.injEq, forall_eq']
        refine ⟨by omega, ih _ (2, (a, n, 0, 0), r, m) ⟨by simp only; omega, ⟨rfl, rfl, ?_⟩, ⟨hb1, hnb, hbz, hbz⟩, fun w hw' => hw w (List.mem_cons_of_mem _ hw')⟩ (by simp only; omega) (Weak.wk ⟨slotsW_iff.1 (by simp -implicitDefEqProofs only [go_sem, Ins.v, Ins.row, Frm.v, Frm.row]), fun e he => by simp only [List.mem_cons, List.not_mem_nil, or_false] at he ⊢; rcases he with h | h | h | h <;> simp only [h, eq_self, true_or, or_true], Nat.le_refl _⟩)⟩
        first | exact hI | (rw [hI]; cases readL [k3, k4] r <;> rfl)
      · have hok : ∀ n, Lib.atoiAll w ≠ .ok n := fun n hn => hok ⟨n, hn⟩
        obtain ⟨z, hz2⟩ := atoi_err hok
        rw [hz2] at hat
        rw [readL_err hz0 hok] at hI
        simp -implicitDefEqProofs only [go_sem, Ins.v, Ins.row, Frm.v, Frm.row, hz0, List.map_cons, hz, hll, hq1, hq3, Option.some.injEq, forall_eq']
        refine CallS.pureF hat (by simp -implicitDefEqProofs only [go_sem, Ins.v, Ins.row, Frm.v, Frm.row]) ?_
        simp -implicitDefEqProofs only [go_sem, Ins.v, Ins.row, Frm.v, Frm.row]
        rw [hI]; rfl
  · obtain ⟨rfl, rfl, hI⟩ := hI
    by_cases hz0 : k3 = 0
    · subst hz0
      rw [readL_zero] at hI
      simp -implicitDefEqProofs only [go_sem, Ins.v, Ins.row, Frm.v, Frm.row, Option.some.injEq, forall_eq']
      refine ih _ (3, (a, b, 0, 0), L, m) ⟨by simp only; omega, ⟨rfl, ?_⟩, ⟨hb1, hb2, hbz, hbz⟩, hw⟩ (by simp only; omega) (Weak.wk ⟨slotsW_iff.1 (by simp -implicitDefEqProofs only [go_sem, Ins.v, Ins.row, Frm.v, Frm.row]), fun e he => by simp only [List.mem_cons, List.not_mem_nil, or_false] at he ⊢; rcases he with h | h | h | h <;> simp only [h, eq_self, true_or, or_true], Nat.le_refl _⟩)
      first | exact hI | (rw [hI]; cases readL [k4] L <;> rfl)
    cases L with
    | nil =>
      rw [readL_nil hz0] at hI
      simp -implicitDefEqProofs only [go_sem, Ins.v, Ins.row, Frm.v, Frm.row, hz0, List.map_nil, Option.some.injEq, forall_eq']
      rw [hI]; rfl
    | cons w r =>
      have hwl := hw w List.mem_cons_self
      have hq1 : ((0 : Int) < ((r.length + 1 : Nat) : Int)) = True := eq_true (by omega)
      have hq2 : ((1 : Int) ≤ ((r.length + 1 : Nat) : Int)) = True := eq_true (by omega)
      have hq3 : (((r.length + 1 : Nat) : Int) = 0) = False := eq_false (by omega)
      have htk : List.take ((((r.length + 1 : Nat) : Int) - 1).toNat) (r.map fun x => [V.str x]) = r.map fun x => [V.str x] := List.take_of_length_le (by rw [hll]; omega)
      have hat := atoiE_pure w hwl
      by_cases hok : ∃ n, Lib.atoiAll w = .ok n
      · obtain ⟨n, hn⟩ := hok
        have hnb : inB n := Lib.atoiAll_bounds hn
        rw [show atoiV w = .tup [.int .i64 n, .cst .nilIface] by unfold atoiV; rw [hn]] at hat
        rw [readL_ok hz0 hn] at hI
        simp -implicitDefEqProofs only [go_sem, Ins.v, Ins.row, Frm.v, Frm.row, hz0, List.map_cons, hz, hll, hq1, hq3, Option.some.injEq, forall_eq']
        refine CallS.pureF hat (by simp -implicitDefEqProofs only [go_sem, Ins.v, Ins.row, Frm.v, Frm.row]) ?_
        simp -implicitDefEqProofs only [go_sem, Ins.v, Ins.row, Frm.v, Frm.row, hz, hll, hq2, htk, Option.some.injEq, forall_eq']
        refine ⟨by omega, ih _ (3, (a, b, n, 0), r, m) ⟨by simp only; omega, ⟨rfl, ?_⟩, ⟨hb1, hb2, hnb, hbz⟩, fun w hw' => hw w (List.mem_cons_of_mem _ hw')⟩ (by simp only; omega) (Weak.wk ⟨slotsW_iff.1 (by simp -implicitDefEqProofs only [go_sem, Ins.v, Ins.row, Frm.v, Frm.row]), fun e he => by simp only [List.mem_cons, List.not_mem_nil, or_false] at he ⊢; rcases he with h | h | h | h <;> simp only [h, eq_self, true_or, or_true], Nat.le_refl _⟩)⟩
        first | exact hI | (rw [hI]; cases readL [k4] r <;> rfl)
      · have hok : ∀ n, Lib.atoiAll w ≠ .ok n := fun n hn => hok ⟨n, hn⟩
        obtain ⟨z, hz2⟩ := atoi_err hok
        rw [hz2] at hat
        rw [readL_err hz0 hok] at hI
        simp -implicitDefEqProofs only [go_sem, Ins.v, Ins.row, Frm.v, Frm.row, hz0, List.map_cons, hz, hll, hq1, hq3, Option.some.injEq, forall_eq']
        refine CallS.pureF hat (by simp -implicitDefEqProofs only [go_sem, Ins.v, Ins.row, Frm.v, Frm.row]) ?_
        simp -implicitDefEqProofs only [go_sem, Ins.v, Ins.row, Frm.v, Frm.row]
        rw [hI]; rfl
  · obtain ⟨rfl, hI⟩ := hI
    by_cases hz0 : k4 = 0
    · subst hz0
      rw [readL_zero] at hI
      simp -implicitDefEqProofs only [go_sem, Ins.v, Ins.row, Frm.v, Frm.row, Option.some.injEq, forall_eq']
      refine ih _ (4, (a, b, c, 0), L, m) ⟨by simp only; omega, ?_, ⟨hb1, hb2, hb3, hbz⟩, hw⟩ (by simp only; omega) (Weak.wk ⟨slotsW_iff.1 (by simp -implicitDefEqProofs only [go_sem, Ins.v, Ins.row, Frm.v, Frm.row]), fun e he => by simp only [List.mem_cons, List.not_mem_nil, or_false] at he ⊢; rcases he with h | h | h | h <;> simp only [h, eq_self, true_or, or_true], Nat.le_refl _⟩)
      first | exact hI | (rw [hI]; rfl)
    cases L with
    | nil =>
      rw [readL_nil hz0] at hI
      simp -implicitDefEqProofs only [go_sem, Ins.v, Ins.row, Frm.v, Frm.row, hz0, List.map_nil, Option.some.injEq, forall_eq']
      rw [hI]; rfl
    | cons w r =>
      have hwl := hw w List.mem_cons_self
      have hq1 : ((0 : Int) < ((r.length + 1 : Nat) : Int)) = True := eq_true (by omega)
      have hq2 : ((1 : Int) ≤ ((r.length + 1 : Nat) : Int)) = True := eq_true (by omega)
      have hq3 : (((r.length + 1 : Nat) : Int) = 0) = False := eq_false (by omega)
      have htk : List.take ((((r.length + 1 : Nat) : Int) - 1).toNat) (r.map fun x => [V.str x]) = r.map fun x => [V.str x] := List.take_of_length_le (by rw [hll]; omega)
      have hat := atoiE_pure w hwl
      by_cases hok : ∃ n, Lib.atoiAll w = .ok n
      · obtain ⟨n, hn⟩ := hok
        have hnb : inB n := Lib.atoiAll_bounds hn
        rw [show atoiV w = .tup [.int .i64 n, .cst .nilIface] by unfold atoiV; rw [hn]] at hat
        rw [readL_ok hz0 hn] at hI
        simp -implicitDefEqProofs only [go_sem, Ins.v, Ins.row, Frm.v, Frm.row, hz0, List.map_cons, hz, hll, hq1, hq3, Option.some.injEq, forall_eq']
        refine CallS.pureF hat (by simp -implicitDefEqProofs only [go_sem, Ins.v, Ins.row, Frm.v, Frm.row]) ?_
        simp -implicitDefEqProofs only [go_sem, Ins.v, Ins.row, Frm.v, Frm.row, hz, hll, hq2, htk, Option.some.injEq, forall_eq']
        refine ⟨by omega, ih _ (4, (a, b, c, n), r, m) ⟨by simp only; omega, ?_, ⟨hb1, hb2, hb3, hnb⟩, fun w hw' => hw w (List.mem_cons_of_mem _ hw')⟩ (by simp only; omega) (Weak.wk ⟨slotsW_iff.1 (by simp -implicitDefEqProofs only [go_sem, Ins.v, Ins.row, Frm.v, Frm.row]), fun e he => by simp only [List.mem_cons, List.not_mem_nil, or_false] at he ⊢; rcases he with h | h | h | h <;> simp only [h, eq_self, true_or, or_true], Nat.le_refl _⟩)⟩
        rw [hI]; rfl
      · have hok : ∀ n, Lib.atoiAll w ≠ .ok n := fun n hn => hok ⟨n, hn⟩
        obtain ⟨z, hz2⟩ := atoi_err hok
        rw [hz2] at hat
        rw [readL_err hz0 hok] at hI
        simp -implicitDefEqProofs only [go_sem, Ins.v, Ins.row, Frm.v, Frm.row, hz0, List.map_cons, hz, hll, hq1, hq3, Option.some.injEq, forall_eq']
        refine CallS.pureF hat (by simp -implicitDefEqProofs only [go_sem, Ins.v, Ins.row, Frm.v, Frm.row]) ?_
        simp -implicitDefEqProofs only [go_sem, Ins.v, Ins.row, Frm.v, Frm.row]
        rw [hI]; rfl
  · have hI : T = some ([a, b, c, d], L) := hI
    subst hI
    clear ih
    have htx := text_pure ⟨op, a, b, c, d⟩ ⟨hb1, hb2, hb3, hb4⟩
    have hck := check_pure ⟨op, a, b, c, d⟩
    cases L with
    | cons w r =>
      have hq1 : ((0 : Int) < ((r.length + 1 : Nat) : Int)) = True := eq_true (by omega)
      simp -implicitDefEqProofs only [go_sem, Ins.v, Ins.row, Frm.v, Frm.row, List.map_cons, hll, hq1]
      rfl
    | nil =>
      simp -implicitDefEqProofs only [go_sem, Ins.v, Ins.row, Frm.v, Frm.row, List.map_nil]
      refine CallS.pureF htx (by simp -implicitDefEqProofs only [go_sem, Ins.v, Ins.row, Frm.v, Frm.row]) ?_
      by_cases ht : textL ⟨op, a, b, c, d⟩ = s
      case neg =>
        have e : parseI op s (some ([a, b, c, d], [])) = .tup [zI, .int .i64 4] := by simp only [parseI, if_neg ht]
        simp -implicitDefEqProofs only [go_sem, Ins.v, Ins.row, Frm.v, Frm.row, ht]
        rw [e]; rfl
      simp -implicitDefEqProofs only [go_sem, Ins.v, Ins.row, Frm.v, Frm.row, ht]
      refine CallS.pureF hck (by simp -implicitDefEqProofs only [go_sem, Ins.v, Ins.row, Frm.v, Frm.row]) ?_
      by_cases hc : chk ⟨op, a, b, c, d⟩ = 0
      · have e : parseI op s (some ([a, b, c, d], [])) = .tup [Ins.v ⟨op, a, b, c, d⟩, .int .i64 0] := by simp only [parseI, if_pos ht, if_pos hc]
        simp -implicitDefEqProofs only [go_sem, Ins.v, Ins.row, Frm.v, Frm.row, hc]
        rw [e]; rfl
      · have e : parseI op s (some ([a, b, c, d], [])) = .tup [zI, .int .i64 (chk ⟨op, a, b, c, d⟩)] := by simp only [parseI, if_pos ht, if_neg hc]
        simp -implicitDefEqProofs only [go_sem, Ins.v, Ins.row, Frm.v, Frm.row, hc]
        rw [e]; rfl
end Go.Proofs.YtembaiapafbfcaaDoor
