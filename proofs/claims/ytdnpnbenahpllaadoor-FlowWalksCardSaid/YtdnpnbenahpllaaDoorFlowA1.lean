/-
  The chapter's examples of flow: what each function answers, by running it. No condition.
-/
import Derived.Test.YtdnpnbenahpllaaDoorUse
set_option linter.unusedVariables false
set_option linter.unusedSimpArgs false
set_option maxRecDepth 1000000
set_option maxHeartbeats 0
namespace Go.Proofs.YtdnpnbenahpllaaDoor
open Go.Abs
attribute [local irreducible] CallS Run

def e1 : Pro := ⟨[], 0, 0, false, 1, [⟨15, 0, 2, 1, 0⟩, ⟨3, 0, 0, 0, 0⟩, ⟨18, 0, 1, 0, 0⟩], [], [], [], [], []⟩
def e2 : Pro := ⟨[], 0, 0, false, 2, [⟨1, 1, 0, 0, 0⟩, ⟨18, 1, 1, 0, 0⟩], [], [], [], [], []⟩
def e3 : Pro := ⟨[], 0, 0, false, 0, [⟨14, 0, 0, 0, 0⟩], [], [], [], [], []⟩
def eR (regs : Int) (code : List (List V)) : List V := [.str [], .int .i64 0, .int .i64 0, .bool false, .int .i64 regs, .isl code, .isl [], .isl [], .isl [], .isl [], .isl []]
def i5 (a b c d e : Int) : List V := [.int .i64 a, .int .i64 b, .int .i64 c, .int .i64 d, .int .i64 e]
theorem e1_row : e1.row = eR 1 [i5 15 0 2 1 0, i5 3 0 0 0 0, i5 18 0 1 0 0] := by rw [Pro.row_eq]; rfl
theorem e2_row : e2.row = eR 2 [i5 1 1 0 0 0, i5 18 1 1 0 0] := by rw [Pro.row_eq]; rfl
theorem e3_row : e3.row = eR 0 [i5 14 0 0 0 0] := by rw [Pro.row_eq]; rfl

/-- One register. -/
def rowK (j : Nat) : List V := rowF fun r => decide (r = j)
theorem rd0 : reads ⟨1, 1, 0, 0, 0⟩ = ([0], -1) := by decide +kernel
theorem rd1 : reads ⟨18, 1, 1, 0, 0⟩ = ([1], -1) := by decide +kernel
theorem wr0 : writes ⟨1, 1, 0, 0, 0⟩ = ([1], -1) := by decide +kernel
theorem regN2 : regN e2.regs = 2 := by decide
theorem put1 (j : Nat) (hj : j < 2) : putB 2 [(j : Int)] (-1) (fun _ => false) = fun r => decide (r = j) := by
  funext r
  unfold putB
  have h1 : ¬ (0 ≤ (-1 : Int) ∧ (-1 : Int) ≤ r) := by omega
  by_cases c : r = j
  · subst c; simp [hj]
  · have : ¬ (r : Int) = j := by omega
    simp [c, this]
theorem e2_sub : e2.row.map (V.sub lost) = e2.row := by rw [e2_row]; rfl
theorem use0 : usesB e2 ⟨1, 1, 0, 0, 0⟩ = fun r => decide (r = 0) := by
  unfold usesB
  rw [rd0, regN2]
  simp only [Int.reduceEq, false_and, if_false]
  exact put1 0 (by omega)
theorem use1 : usesB e2 ⟨18, 1, 1, 0, 0⟩ = fun r => decide (r = 1) := by
  unfold usesB
  rw [rd1, regN2]
  simp only [Int.reduceEq, false_and, if_false]
  exact put1 1 (by omega)
theorem def0 : defsB e2 0 1 = fun r => decide (r = 1) := by
  unfold defsB
  simp only [e2, List.getElem?_cons_zero]
  rw [wr0]
  exact put1 1 (by omega)
theorem use0_pure : Pure Tryd.prog 21 [.agg (eR 2 [i5 1 1 0 0 0, i5 18 1 1 0 0]), .agg (i5 1 1 0 0 0)] (.iptr [rowK 0] 0 0) := by
  have := uses_pure e2 ⟨1, 1, 0, 0, 0⟩ e2_sub (fun q hq => by cases hq)
  rwa [use0, e2_row] at this
theorem use1_pure : Pure Tryd.prog 21 [.agg (eR 2 [i5 1 1 0 0 0, i5 18 1 1 0 0]), .agg (i5 18 1 1 0 0)] (.iptr [rowK 1] 0 0) := by
  have := uses_pure e2 ⟨18, 1, 1, 0, 0⟩ e2_sub (fun q hq => by cases hq)
  rwa [use1, e2_row] at this
theorem def0_pure : Pure Tryd.prog 22 [.agg (eR 2 [i5 1 1 0 0 0, i5 18 1 1 0 0]), .int .i64 0, .int .i64 1] (.iptr [rowK 1] 0 0) := by
  have := defs_pure e2 0 1 (by decide) (by decide) e2_sub
  rwa [def0, e2_row] at this

/-- Answers known, by number and arguments. -/
def libOf (T : List (FuncId × List V × V)) (lib : Caller) : Caller := fun f xs h n => find f xs h n T
where
  find (f : FuncId) (xs : List V) (h : Heap) (n : Nat) : List (FuncId × List V × V) → Outs
    | [] => lib f xs h n
    | e :: r => bif Nat.beq e.1 f && V.beqL e.2.1 xs then oneO e.2.2 h n else find f xs h n r
theorem libOf_ok {T : List (FuncId × List V × V)} {lib : Caller} (hT : ∀ e ∈ T, Pure Tryd.prog e.1 e.2.1 e.2.2 ∧ e.2.1.map (V.sub lost) = e.2.1) (hl : CallerOK Tryd.prog lib) : CallerOK Tryd.prog (libOf T lib) := by
  intro f xs h n k hg
  have key : ∀ T' : List (FuncId × List V × V), (∀ e ∈ T', e ∈ T) → Go.Abs.Good (libOf.find lib f xs h n T') k → CallS Tryd.prog f xs h n k := by
    intro T'
    induction T' with
    | nil => exact fun _ hg => hl f xs h n k hg
    | cons e r ih =>
      intro hm hg
      simp only [libOf.find] at hg
      cases hb : Nat.beq e.1 f && V.beqL e.2.1 xs with
      | false => rw [hb] at hg; exact ih (fun x hx => hm x (List.mem_cons_of_mem _ hx)) hg
      | true =>
        rw [hb, cond_true] at hg
        rw [Bool.and_eq_true] at hb
        obtain ⟨h1, h2⟩ := hT e (hm e List.mem_cons_self)
        rw [← Nat.eq_of_beq_eq_true hb.1, ← V.beqL_eq hb.2]
        exact CallS.pure h1 h2 hg.one
  exact key T (fun _ h => h) hg
def libA : Caller := libOf [(21, [.agg (eR 2 [i5 1 1 0 0 0, i5 18 1 1 0 0]), .agg (i5 1 1 0 0 0)], .iptr [rowK 0] 0 0),
  (21, [.agg (eR 2 [i5 1 1 0 0 0, i5 18 1 1 0 0]), .agg (i5 18 1 1 0 0)], .iptr [rowK 1] 0 0),
  (22, [.agg (eR 2 [i5 1 1 0 0 0, i5 18 1 1 0 0]), .int .i64 0, .int .i64 1], .iptr [rowK 1] 0 0)] libF
theorem libA_ok : CallerOK Tryd.prog libA := libOf_ok (fun e he => by
  simp only [List.mem_cons, List.not_mem_nil, or_false] at he
  rcases he with rfl | rfl | rfl
  · exact ⟨use0_pure, rfl⟩
  · exact ⟨use1_pure, rfl⟩
  · exact ⟨def0_pure, rfl⟩) libF_ok

theorem xBlocks : Pure Tryd.prog 19 [.agg (eR 1 [i5 15 0 2 1 0, i5 3 0 0 0 0, i5 18 0 1 0 0])] (.isl [[.int .i64 0, .int .i64 1, .isl [zrw 1, zrw 2]], [.int .i64 1, .int .i64 2, .isl [zrw 2]], [.int .i64 2, .int .i64 3, .isl []]]) :=
  Pure.execB (m := 50000) (d := 30) (fr := 2) exT_ok libF_ok (by kernel_rfl)
theorem xLive : Pure Tryd.prog 9 [.agg (eR 2 [i5 1 1 0 0 0, i5 18 1 1 0 0])] (.isl [[.isl [zrw 0]], [.isl [zrw 1]]]) :=
  Pure.execB (m := 50000) (d := 30) (fr := 2) exT_ok libA_ok (by kernel_rfl)
theorem xNext : Pure Tryd.prog 16 [.agg (eR 0 [i5 14 0 0 0 0]), .int .i64 0] (.isl [zrw 0]) :=
  Pure.execB (m := 50000) (d := 30) (fr := 2) exT_ok libF_ok (by kernel_rfl)
theorem xLoops : Pure Tryd.prog 13 [.agg (eR 0 [i5 14 0 0 0 0])] (.isl [zrw 0]) :=
  Pure.execB (m := 50000) (d := 30) (fr := 2) exT_ok libF_ok (by kernel_rfl)
theorem xReach : Pure Tryd.prog 12 [.agg (eR 0 [i5 14 0 0 0 0])] (.isl [[.bool true]]) :=
  Pure.execB (m := 50000) (d := 30) (fr := 2) exT_ok libF_ok (by kernel_rfl)
end Go.Proofs.YtdnpnbenahpllaaDoor
