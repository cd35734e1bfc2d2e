/-
  The registers that an instruction reads and writes, as data. No program, no condition.
-/
import Derived.Test.YtkjcokmbjdafnaaDoorOpT
import Derived.Test.YtkjcokmbjdafnaaDoorSet
set_option linter.unusedVariables false
set_option linter.unusedSimpArgs false
set_option maxRecDepth 100000
namespace Go.Proofs.YtkjcokmbjdafnaaDoor
open Go.Abs
def spanP (a n : Int) : List Int × Int := if n < 0 then ([], a) else (spanN a n.toNat, -1)
def rds (i : Ins) : List Int × Int :=
  if i.op = 1 ∨ i.op = 6 ∨ i.op = 8 ∨ i.op = 11 ∨ i.op = 12 then ([i.b], -1)
  else if i.op = 9 ∨ i.op = 13 then (normZ [i.b, i.c], -1)
  else if i.op = 10 then (normZ [i.a, i.b, i.c], -1)
  else if i.op = 15 ∨ i.op = 28 then ([i.a], -1)
  else if i.op = 16 ∨ i.op = 17 ∨ i.op = 21 then (i.a :: (spanP (i.a + 1) i.b).1, (spanP (i.a + 1) i.b).2)
  else if i.op = 18 then spanP i.a i.b
  else if i.op = 23 ∨ i.op = 24 ∨ i.op = 25 then spanP i.a 3
  else if i.op = 26 then ([i.a + 3], -1)
  else ([], -1)
def wrs (i : Ins) : List Int × Int :=
  if i.op = 1 ∨ i.op = 2 ∨ i.op = 4 ∨ i.op = 5 ∨ i.op = 7 ∨ i.op = 9 ∨ i.op = 12 ∨ i.op = 13 ∨ i.op = 20 ∨ i.op = 22 then ([i.a], -1)
  else if i.op = 3 then spanP i.a (i.b - i.a + 1)
  else if i.op = 11 then ([i.a, i.a + 1], -1)
  else if i.op = 16 then spanP i.a i.c
  else if i.op = 19 then spanP i.a i.b
  else if i.op = 23 then ([i.a + 3], -1)
  else if i.op = 24 then ([i.a, i.a + 3], -1)
  else if i.op = 25 then spanP (i.a + 3) i.c
  else if i.op = 26 then ([i.a + 2], -1)
  else ([], -1)
def reads (i : Ins) : List Int × Int := if chk i = 0 then rds i else ([], -1)
def writes (i : Ins) : List Int × Int := if chk i = 0 then wrs i else ([], -1)
theorem chk_fits {i : Ins} (h : chk i = 0) :
    (i.op = 3 → 0 ≤ i.b - i.a + 1) ∧ (i.op = 25 → 1 ≤ i.c) := by
  unfold chk at h
  cases ho : isOp i.op with
  | false => rw [ho] at h; simp at h
  | true =>
    obtain ⟨op, a, b, c, d⟩ := i
    simp only at h ho ⊢
    refine ⟨?_, ?_⟩ <;> rintro rfl <;> simp [frm, frmN, frmT, isOp, fit1, fit2, low, high, lowT, highT, lastR, mm2] at h <;> omega
theorem spanP_neg {a n : Int} (h : n < 0) : spanP a n = ([], a) := if_pos h
theorem spanP_pos {a n : Int} (h : ¬ n < 0) : spanP a n = (spanN a n.toNat, -1) := if_neg h
theorem spanP_len (a n : Int) : (spanP a n).1.length ≤ n.toNat := by unfold spanP; split <;> simp [spanN_len]
theorem asc_spanP (a n : Int) : Asc (spanP a n).1 := by
  unfold spanP; split
  · exact asc_nil
  · exact asc_spanN _ _
theorem mem_spanP {a n x : Int} : x ∈ (spanP a n).1 ↔ a ≤ x ∧ x < a + n := by
  unfold spanP
  split
  · simp; omega
  · simp only [mem_spanN]; omega
theorem asc_two {x y : Int} (h : x < y) : Asc [x, y] := List.pairwise_cons.2 ⟨fun a ha => by rw [List.mem_singleton.1 ha]; exact h, asc_one y⟩
theorem asc_rds (i : Ins) : Asc (rds i).1 := by
  unfold rds
  repeat' split
  all_goals first | exact asc_one _ | exact asc_normZ _ | exact asc_spanP _ _ | exact asc_nil | skip
  exact List.pairwise_cons.2 ⟨fun a ha => by have := mem_spanP.1 ha; omega, asc_spanP _ _⟩
theorem asc_wrs (i : Ins) : Asc (wrs i).1 := by
  unfold wrs
  repeat' split
  all_goals first | exact asc_one _ | exact asc_normZ _ | exact asc_spanP _ _ | exact asc_nil | exact asc_two (by omega)
theorem asc_reads (i : Ins) : Asc (reads i).1 := by unfold reads; split; exact asc_rds i; exact asc_nil
theorem asc_writes (i : Ins) : Asc (writes i).1 := by unfold writes; split; exact asc_wrs i; exact asc_nil
theorem spanP_snd (a n : Int) : (spanP a n).2 = if n < 0 then a else -1 := by unfold spanP; split <;> rfl
theorem reads_in (i : Ins) : (∀ x ∈ (reads i).1, 0 ≤ x ∧ x < 4096) ∧ -1 ≤ (reads i).2 ∧ (reads i).2 ≤ 4096 ∧ ((reads i).2 = -1 ∨ i.b = -1) := by
  unfold reads
  by_cases h : chk i = 0
  rotate_left
  · rw [if_neg h]; simp
  rw [if_pos h]
  have h0 := chk_ok h
  unfold chk at h
  cases ho : isOp i.op with
  | false => rw [ho] at h; simp at h
  | true =>
    obtain ⟨op, a, b, c, d⟩ := i
    simp only at h ho h0 ⊢
    rcases op_cases ho with rfl | rfl | rfl | rfl | rfl | rfl | rfl | rfl | rfl | rfl | rfl | rfl | rfl | rfl | rfl | rfl | rfl | rfl | rfl | rfl | rfl | rfl | rfl | rfl | rfl | rfl | rfl | rfl | rfl <;>
    (simp [frm, frmN, frmT, isOp, fit1, fit2, low, high, lowT, highT, lastR, mm2] at h
     refine ⟨fun x hx => ?_, ?_, ?_, ?_⟩
     · simp [rds, mem_normZ_iff, mem_spanP] at hx <;> omega
     all_goals (simp [rds, spanP_snd] <;> omega))
theorem writes_in (i : Ins) : (∀ x ∈ (writes i).1, 0 ≤ x ∧ x < 4096) ∧ -1 ≤ (writes i).2 ∧ (writes i).2 ≤ 4096 ∧ ((writes i).2 = -1 ∨ i.b = -1 ∨ i.c = -1) := by
  unfold writes
  by_cases h : chk i = 0
  rotate_left
  · rw [if_neg h]; simp
  rw [if_pos h]
  have h0 := chk_ok h
  unfold chk at h
  cases ho : isOp i.op with
  | false => rw [ho] at h; simp at h
  | true =>
    obtain ⟨op, a, b, c, d⟩ := i
    simp only at h ho h0 ⊢
    rcases op_cases ho with rfl | rfl | rfl | rfl | rfl | rfl | rfl | rfl | rfl | rfl | rfl | rfl | rfl | rfl | rfl | rfl | rfl | rfl | rfl | rfl | rfl | rfl | rfl | rfl | rfl | rfl | rfl | rfl | rfl <;>
    (simp [frm, frmN, frmT, isOp, fit1, fit2, low, high, lowT, highT, lastR, mm2] at h
     refine ⟨fun x hx => ?_, ?_, ?_, ?_⟩
     · simp [wrs, mem_normZ_iff, mem_spanP] at hx <;> omega
     all_goals (simp [wrs, spanP_snd] <;> omega))
end Go.Proofs.YtkjcokmbjdafnaaDoor
