/-
  The registers that an instruction reads and writes, as data. No program, no condition.
-/
import Derived.Test.YtabdlpfhfmeppaaGreatDoorOpT
import Derived.Test.YtabdlpfhfmeppaaGreatDoorSetM
import Derived.Test.YtabdlpfhfmeppaaGreatDoorCode
import Derived.Test.YtabdlpfhfmeppaaGreatDoorOpc3
set_option linter.unusedVariables false
set_option linter.unusedSimpArgs false
set_option maxRecDepth 100000
set_option maxHeartbeats 0
namespace Go.Proofs.YtabdlpfhfmeppaaGreatDoor
open Go.Abs
attribute [local irreducible] CallS Run
def spanP (a n : Int) : List Int × Int := if n < 0 then ([], a) else (spanN a n.toNat, -1)
def rds (i : Ins) : List Int × Int :=
  if i.op = 1 ∨ i.op = 6 ∨ i.op = 8 ∨ i.op = 11 ∨ i.op = 12 then ([i.b], -1)
  else if i.op = 9 ∨ i.op = 13 then (normZ [i.b, i.c], -1)
  else if i.op = 10 then (normZ [i.a, i.b, i.c], -1)
  else if i.op = 15 ∨ i.op = 28 then ([i.a], -1)
  else if i.op = 16 ∨ i.op = 17 ∨ i.op = 21 then (i.a :: (spanP (i.a + 1) i.b).1, (spanP (i.a + 1) i.b).2)
  else if i.op = 18 then spanP i.a i.b
  else if i.op = 23 ∨ i.op = 24 ∨ i.op = 25 then spanP i.a 3
  else if i.op = 26 then ([i.a + 3], -1)
  else ([], -1)
def wrs (i : Ins) : List Int × Int :=
  if i.op = 1 ∨ i.op = 2 ∨ i.op = 4 ∨ i.op = 5 ∨ i.op = 7 ∨ i.op = 9 ∨ i.op = 12 ∨ i.op = 13 ∨ i.op = 20 ∨ i.op = 22 then ([i.a], -1)
  else if i.op = 3 then spanP i.a (i.b - i.a + 1)
  else if i.op = 11 then ([i.a, i.a + 1], -1)
  else if i.op = 16 then spanP i.a i.c
  else if i.op = 19 then spanP i.a i.b
  else if i.op = 23 then ([i.a + 3], -1)
  else if i.op = 24 then ([i.a, i.a + 3], -1)
  else if i.op = 25 then spanP (i.a + 3) i.c
  else if i.op = 26 then ([i.a + 2], -1)
  else ([], -1)
def reads (i : Ins) : List Int × Int := if chk i = 0 then rds i else ([], -1)
def writes (i : Ins) : List Int × Int := if chk i = 0 then wrs i else ([], -1)
theorem chk_fits {i : Ins} (h : chk i = 0) :
    (i.op = 3 → 0 ≤ i.b - i.a + 1) ∧ (i.op = 25 → 1 ≤ i.c) := by
  unfold chk at h
  cases ho : isOp i.op with
  | false => rw [ho] at h; simp at h
  | true =>
    obtain ⟨op, a, b, c, d⟩ := i
    simp only at h ho ⊢
    refine ⟨?_, ?_⟩ <;> rintro rfl <;> simp [frm, frmN, frmT, isOp, fit1, fit2, low, high, lowT, highT, lastR, mm2] at h <;> omega
theorem spanP_neg {a n : Int} (h : n < 0) : spanP a n = ([], a) := if_pos h
theorem spanP_pos {a n : Int} (h : ¬ n < 0) : spanP a n = (spanN a n.toNat, -1) := if_neg h
theorem spanP_len (a n : Int) : (spanP a n).1.length ≤ n.toNat := by unfold spanP; split <;> simp [spanN_len]
theorem asc_spanP (a n : Int) : Asc (spanP a n).1 := by
  unfold spanP; split
  · exact asc_nil
  · exact asc_spanN _ _
theorem mem_spanP {a n x : Int} : x ∈ (spanP a n).1 ↔ a ≤ x ∧ x < a + n := by
  unfold spanP
  split
  · simp; omega
  · simp only [mem_spanN]; omega
theorem asc_two {x y : Int} (h : x < y) : Asc [x, y] := List.pairwise_cons.2 ⟨fun a ha => by rw [List.mem_singleton.1 ha]; exact h, asc_one y⟩
theorem asc_rds (i : Ins) : Asc (rds i).1 := by
  unfold rds
  repeat' split
  all_goals first | exact asc_one _ | exact asc_normZ _ | exact asc_spanP _ _ | exact asc_nil | skip
  exact List.pairwise_cons.2 ⟨fun a ha => by have := mem_spanP.1 ha; omega, asc_spanP _ _⟩
theorem asc_wrs (i : Ins) : Asc (wrs i).1 := by
  unfold wrs
  repeat' split
  all_goals first | exact asc_one _ | exact asc_normZ _ | exact asc_spanP _ _ | exact asc_nil | exact asc_two (by omega)
theorem asc_reads (i : Ins) : Asc (reads i).1 := by unfold reads; split; exact asc_rds i; exact asc_nil
theorem asc_writes (i : Ins) : Asc (writes i).1 := by unfold writes; split; exact asc_wrs i; exact asc_nil
theorem spanP_snd (a n : Int) : (spanP a n).2 = if n < 0 then a else -1 := by unfold spanP; split <;> rfl
theorem reads_in (i : Ins) : (∀ x ∈ (reads i).1, 0 ≤ x ∧ x < 4096) ∧ -1 ≤ (reads i).2 ∧ (reads i).2 ≤ 4096 ∧ ((reads i).2 = -1 ∨ i.b = -1) := by
  unfold reads
  by_cases h : chk i = 0
  rotate_left
  · rw [if_neg h]; simp
  rw [if_pos h]
  have h0 := chk_ok h
  unfold chk at h
  cases ho : isOp i.op with
  | false => rw [ho] at h; simp at h
  | true =>
    obtain ⟨op, a, b, c, d⟩ := i
    simp only at h ho h0 ⊢
    rcases op_cases ho with rfl | rfl | rfl | rfl | rfl | rfl | rfl | rfl | rfl | rfl | rfl | rfl | rfl | rfl | rfl | rfl | rfl | rfl | rfl | rfl | rfl | rfl | rfl | rfl | rfl | rfl | rfl | rfl | rfl <;>
    (simp [frm, frmN, frmT, isOp, fit1, fit2, low, high, lowT, highT, lastR, mm2] at h
     refine ⟨fun x hx => ?_, ?_, ?_, ?_⟩
     · simp [rds, mem_normZ_iff, mem_spanP] at hx <;> omega
     all_goals (simp [rds, spanP_snd] <;> omega))
theorem writes_in (i : Ins) : (∀ x ∈ (writes i).1, 0 ≤ x ∧ x < 4096) ∧ -1 ≤ (writes i).2 ∧ (writes i).2 ≤ 4096 ∧ ((writes i).2 = -1 ∨ i.b = -1 ∨ i.c = -1) := by
  unfold writes
  by_cases h : chk i = 0
  rotate_left
  · rw [if_neg h]; simp
  rw [if_pos h]
  have h0 := chk_ok h
  unfold chk at h
  cases ho : isOp i.op with
  | false => rw [ho] at h; simp at h
  | true =>
    obtain ⟨op, a, b, c, d⟩ := i
    simp only at h ho h0 ⊢
    rcases op_cases ho with rfl | rfl | rfl | rfl | rfl | rfl | rfl | rfl | rfl | rfl | rfl | rfl | rfl | rfl | rfl | rfl | rfl | rfl | rfl | rfl | rfl | rfl | rfl | rfl | rfl | rfl | rfl | rfl | rfl <;>
    (simp [frm, frmN, frmT, isOp, fit1, fit2, low, high, lowT, highT, lastR, mm2] at h
     refine ⟨fun x hx => ?_, ?_, ?_, ?_⟩
     · simp [wrs, mem_normZ_iff, mem_spanP] at hx <;> omega
     all_goals (simp [wrs, spanP_snd] <;> omega))
-- EV: Ins.v, Ins.row
theorem span_pure (a n : Int) (ha : -100000 ≤ a ∧ a ≤ 100000) (hn : n ≤ 100000) : Pure Tryz.prog 90 [.int .i64 a, .int .i64 n] (.tup [.isl ((spanP a n).1.map zrw), .int .i64 (spanP a n).2]) := by
  refine Pure.of 1 (CallS.enter opcode_span_ok (Nat.le_of_ble_eq_true rfl) ?_)
  refine Run.go 100 ?_
  by_cases h : n < 0
  · rw [spanP_neg h]
    simp -implicitDefEqProofs only [go_sem, Ins.v, Ins.row, initSl, h, List.map_nil]
  · rw [spanP_pos h]
    simp -implicitDefEqProofs only [go_sem, Ins.v, Ins.row, initSl, h]
    refine Run.roundsK (fun (x : Nat × Nat × Nat) => ⟨[(12, .int .i64 x.1), (11, .int .i64 n), (6, .sl (90 * 10000 + 20) x.2.1 0 (spanN a x.1).length), (0, .int .i64 a)], [((90 * 10000 + 20), x.2.1, .rows 1 ((spanN a x.1).map zrw))], x.2.2⟩)
      (fun x => x.1 ≤ n.toNat) (fun x => n.toNat - x.1) (0, 0, 1) ?_ (by simp only; omega) ?_
    · refine .trans (.fresh (90 * 10000 + 20) 1 _ _ _) (.turn id ?_ (.at 0 rfl rfl (.refl _) trivial))
      exact ⟨.refl _, .refl _, .nils, .refl _, trivial⟩
    rintro ⟨k, st, m⟩ hk ih
    simp only at hk ⊢
    have hz : ((k + 1 : Nat) : Int) = (k : Int) + 1 := by omega
    have hl := spanN_len a k
    refine Run.unf opcode_span_l0_eq (Run.go 100 ?_)
    by_cases c : (k : Int) < n
    · simp -implicitDefEqProofs only [go_sem, Ins.v, Ins.row, c]
      refine ⟨by omega, by omega, by omega, ?_⟩
      refine ih _ (k + 1, m, m + 1) (by simp only; omega) (by simp only; omega) (Weak.wk ?_)
      simp only [hz, spanN_succ, List.map_append, List.length_append, List.map_cons, List.map_nil, List.length_cons, List.length_nil, zrw]
      simp -implicitDefEqProofs only [go_sem, Ins.v, Ins.row]
    · have e : k = n.toNat := by omega
      subst e
      simp -implicitDefEqProofs only [go_sem, Ins.v, Ins.row, c]
      exact frzZ _ _ _
theorem asc_len : ∀ {l : List Int} {a b : Int}, Asc l → (∀ x ∈ l, a ≤ x) → (∀ x ∈ l, x < b) → (l.length : Int) ≤ max (b - a) 0
  | [], a, b, _, _, _ => by simp; omega
  | x :: l, a, b, h, h1, h2 => by
    obtain ⟨h3, h4⟩ := List.pairwise_cons.1 h
    have := asc_len (a := x + 1) (b := b) h4 (fun y hy => by have := h3 y hy; omega) (fun y hy => h2 y (List.mem_cons_of_mem _ hy))
    have hx := h1 x List.mem_cons_self
    have hx2 := h2 x List.mem_cons_self
    simp only [List.length_cons]
    omega
theorem norm_take (zs : List Int) (m : Nat) : (((normZ zs ++ List.replicate m 0).map zrw).take (normZ zs).length) = (normZ zs).map zrw := compact_take (sortZ zs) m
theorem rowszZ' (l : List Int) : rowsz (l.map zrw) 1 = True := eq_true fun r hr => by obtain ⟨y, _, rfl⟩ := List.mem_map.1 hr; rfl
theorem subZ' (l : List Int) : (l.map zrw).map (fun r => r.map (V.sub lost)) = l.map zrw := frzZ 0 [] l
theorem sorted_c (zs : List Int) {m : Nat} (hl : zs.length = m) (hm : 0 < m) (hB : m ≤ 100000) (b st n : Nat) :
    CallS Tryz.prog 89 [.sl b st 0 m] [(b, st, .rows 1 (zs.map zrw))] n (fun r h' _ => r = .sl b st 0 (normZ zs).length ∧ h' = [(b, st, .rows 1 ((normZ zs ++ List.replicate (m - (normZ zs).length) 0).map zrw))]) := by
  refine CallS.enter opcode_sorted_ok (Nat.le_of_ble_eq_true rfl) ?_
  refine Run.go 100 ?_
  simp -implicitDefEqProofs only [go_sem, Ins.v, Ins.row, initSl]
  refine CallS.at [0] [] (sort_m zs hl hm hB _ _ _) rfl rfl ?_
  rintro r h' n' hn ⟨rfl, rfl⟩
  simp -implicitDefEqProofs only [go_sem, Ins.v, Ins.row]
  refine CallS.at [0] [] (compact_m (sortZ zs) (m := m) (by simp [sortZ, hl]) hm hB _ _ _) rfl rfl ?_
  rintro r h' n' hn ⟨rfl, rfl⟩
  simp -implicitDefEqProofs only [go_sem, Ins.v, Ins.row, normZ]
-- EV: Ins.v, Ins.row
theorem reads_pure (i : Ins) : Pure Tryz.prog 68 [i.v] (.tup [.isl ((reads i).1.map zrw), .int .i64 (reads i).2]) := by
  refine Pure.of 1 (CallS.enter opcode_Reads_ok (Nat.le_of_ble_eq_true rfl) ?_)
  refine Run.go 100 ?_
  simp -implicitDefEqProofs only [go_sem, Ins.v, Ins.row, initSl]
  refine CallS.pureF (check_pure i) (by simp -implicitDefEqProofs only [go_sem, Ins.v, Ins.row]) ?_
  by_cases hc : chk i = 0
  rotate_left
  · rw [show reads i = ([], -1) from if_neg hc]
    simp -implicitDefEqProofs only [go_sem, Ins.v, Ins.row, hc, List.map_nil]
  · rw [show reads i = rds i from if_pos hc, hc]
    have h0 := chk_ok hc
    simp -implicitDefEqProofs only [go_sem, Ins.v, Ins.row]
    repeat' (first | refine And.intro ?_ ?_ | refine fun h => ?_)
    all_goals first
      | omega
      | (simp [rds, zrw, *]; done)
      | (rw [show rds i = (normZ [i.b, i.c], -1) by simp [rds, *]]
         refine CallS.at [0] [] (sorted_c [i.b, i.c] (m := 2) rfl (by omega) (by omega) _ _ _) rfl rfl ?_
         rintro r h' n' hn ⟨rfl, rfl⟩
         simp -implicitDefEqProofs only [go_sem, Ins.v, Ins.row, norm_take, frzZ, Nat.le_add_right]
         done)
      | (rw [show rds i = (normZ [i.a, i.b, i.c], -1) by simp [rds, *]]
         refine CallS.at [0] [] (sorted_c [i.a, i.b, i.c] (m := 3) rfl (by omega) (by omega) _ _ _) rfl rfl ?_
         rintro r h' n' hn ⟨rfl, rfl⟩
         simp -implicitDefEqProofs only [go_sem, Ins.v, Ins.row, norm_take, frzZ, Nat.le_add_right]
         done)
      | (rw [show rds i = (i.a :: (spanP (i.a + 1) i.b).1, (spanP (i.a + 1) i.b).2) by simp [rds, *]]
         have hle : (spanP (i.a + 1) i.b).1.length ≤ 20000 := by have := spanP_len (i.a + 1) i.b; omega
         have hsz := rowszZ' (spanP (i.a + 1) i.b).1
         refine CallS.pureF (span_pure (i.a + 1) i.b ⟨by omega, by omega⟩ (by omega)) (by simp -implicitDefEqProofs only [go_sem, Ins.v, Ins.row, subZ']) ?_
         simp -implicitDefEqProofs only [go_sem, Ins.v, Ins.row, frzZ, hsz, List.length_map]
         refine ⟨by omega, ?_⟩
         rw [if_pos (by omega), List.take_of_length_le (by simp; omega)]
         exact congrArg V.isl (frzZ 0 _ (i.a :: (spanP (i.a + 1) i.b).1)))
      | (rw [show rds i = spanP (i.a) i.b by simp [rds, *]]
         refine CallS.pureF (span_pure (i.a) i.b ⟨by omega, by omega⟩ (by omega)) (by simp -implicitDefEqProofs only [go_sem, Ins.v, Ins.row]) ?_
         simp -implicitDefEqProofs only [go_sem, Ins.v, Ins.row, frzZ]
         done)
      | (rw [show rds i = spanP (i.a) 3 by simp [rds, *]]
         refine CallS.pureF (span_pure (i.a) 3 ⟨by omega, by omega⟩ (by omega)) (by simp -implicitDefEqProofs only [go_sem, Ins.v, Ins.row]) ?_
         simp -implicitDefEqProofs only [go_sem, Ins.v, Ins.row, frzZ]
         done)
theorem writes_pure (i : Ins) : Pure Tryz.prog 69 [i.v] (.tup [.isl ((writes i).1.map zrw), .int .i64 (writes i).2]) := by
  refine Pure.of 1 (CallS.enter opcode_Writes_ok (Nat.le_of_ble_eq_true rfl) ?_)
  refine Run.go 100 ?_
  simp -implicitDefEqProofs only [go_sem, Ins.v, Ins.row, initSl]
  refine CallS.pureF (check_pure i) (by simp -implicitDefEqProofs only [go_sem, Ins.v, Ins.row]) ?_
  by_cases hc : chk i = 0
  rotate_left
  · rw [show writes i = ([], -1) from if_neg hc]
    simp -implicitDefEqProofs only [go_sem, Ins.v, Ins.row, hc, List.map_nil]
  · rw [show writes i = wrs i from if_pos hc, hc]
    have h0 := chk_ok hc
    have h1 := chk_fits hc
    simp -implicitDefEqProofs only [go_sem, Ins.v, Ins.row]
    repeat' (first | refine And.intro ?_ ?_ | refine fun h => ?_)
    all_goals first
      | omega
      | (simp [wrs, zrw, *]; done)
      | (rw [show wrs i = spanP (i.a) (i.b - i.a + 1) by simp [wrs, *]]
         refine CallS.pureF (span_pure (i.a) (i.b - i.a + 1) ⟨by omega, by omega⟩ (by omega)) (by simp -implicitDefEqProofs only [go_sem, Ins.v, Ins.row]) ?_
         simp -implicitDefEqProofs only [go_sem, Ins.v, Ins.row, frzZ]
         done)
      | (rw [show wrs i = spanP (i.a) (i.c) by simp [wrs, *]]
         refine CallS.pureF (span_pure (i.a) (i.c) ⟨by omega, by omega⟩ (by omega)) (by simp -implicitDefEqProofs only [go_sem, Ins.v, Ins.row]) ?_
         simp -implicitDefEqProofs only [go_sem, Ins.v, Ins.row, frzZ]
         done)
      | (rw [show wrs i = spanP (i.a) (i.b) by simp [wrs, *]]
         refine CallS.pureF (span_pure (i.a) (i.b) ⟨by omega, by omega⟩ (by omega)) (by simp -implicitDefEqProofs only [go_sem, Ins.v, Ins.row]) ?_
         simp -implicitDefEqProofs only [go_sem, Ins.v, Ins.row, frzZ]
         done)
      | (rw [show wrs i = spanP (i.a + 3) (i.c) by simp [wrs, *]]
         refine CallS.pureF (span_pure (i.a + 3) (i.c) ⟨by omega, by omega⟩ (by omega)) (by simp -implicitDefEqProofs only [go_sem, Ins.v, Ins.row]) ?_
         simp -implicitDefEqProofs only [go_sem, Ins.v, Ins.row, frzZ]
         done)
end Go.Proofs.YtabdlpfhfmeppaaGreatDoor
