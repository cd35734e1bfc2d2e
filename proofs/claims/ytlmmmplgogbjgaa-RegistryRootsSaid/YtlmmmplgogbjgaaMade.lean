/-
  Registry: any calls. No condition.
-/
import Derived.Test.YtlmmmplgogbjgaaStep
set_option linter.unusedVariables false
set_option linter.unusedSimpArgs false
set_option maxRecDepth 100000
set_option maxHeartbeats 0
namespace Go.Proofs.Ytlmmmplgogbjgaa
open Go.Abs
attribute [local irreducible] CallS Run
-- EV: RegH, RefH, nO, nM, nV, nF, nL, rO, rL, rF, rN, Val.v, Val.row, irow, prow, Val.none

def isLarge (l : List Op) : Bool := decide (300 < l.length) || l.any fun o => decide (5000 < o.name.length)
theorem not_large {l : List Op} (h : isLarge l = false) : l.length ≤ 300 := by
  simp [isLarge] at h; omega

theorem oprows {l : List Op} : rowsz (l.map Op.row) 8 := by
  intro r hr
  obtain ⟨z, _, rfl⟩ := List.mem_map.1 hr
  rfl

theorem large_pure (l : List Op) (hl : l.length ≤ reachBytes) : Pure Try.prog 5 [.isl (l.map Op.row)] (.bool (isLarge l)) := by
  refine Pure.of 0 (CallS.enter scriptinglaw18_large_ok (Nat.le_of_ble_eq_true rfl) (Run.go 100 ?_))
  simp -implicitDefEqProofs only [go_sem, RegH, RefH, nO, nM, nV, nF, nL, rO, rL, rF, rN, Val.v, Val.row, irow, prow, Val.none, initSl]
  refine ⟨fun c => by simp [isLarge]; omega, fun c => ?_⟩
  refine Run.rounds (fun (i : Nat) => ⟨[(3, .int .i64 i), (0, .isl (l.map Op.row))], [], 0⟩) (fun i => i ≤ l.length ∧ ∀ o ∈ l.take i, o.name.length ≤ 5000) (fun i => l.length - i) 0 (by first | (simp -implicitDefEqProofs only [go_sem, RegH, RefH, nO, nM, nV, nF, nL, rO, rL, rF, rN, Val.v, Val.row, irow, prow, Val.none]; done) | (simp -implicitDefEqProofs only [go_sem, RegH, RefH, nO, nM, nV, nF, nL, rO, rL, rF, rN, Val.v, Val.row, irow, prow, Val.none]; simp)) ⟨Nat.zero_le _, by simp⟩ ?_
  rintro i ⟨hi, hp⟩ ih
  refine Run.unf scriptinglaw18_large_l0_eq (Run.go 100 ?_)
  simp -implicitDefEqProofs only [go_sem, RegH, RefH, nO, nM, nV, nF, nL, rO, rL, rF, rN, Val.v, Val.row, irow, prow, Val.none]
  refine ⟨fun c1 => ?_, fun c1 => ?_⟩
  · refine ⟨by omega, by omega, oprows, by omega, fun x hx => ?_⟩
    simp -implicitDefEqProofs only [go_sem, RegH, RefH, nO, nM, nV, nF, nL, rO, rL, rF, rN, Val.v, Val.row, irow, prow, Val.none, Op.row]
    refine ⟨fun c2 => ?_, fun c2 => ⟨by omega, ?_⟩⟩
    · have : ∃ o ∈ l, 5000 < o.name.length := ⟨x, List.mem_of_getElem? hx, by omega⟩
      simp [isLarge, this]
    · refine ih _ (i + 1) ⟨by omega, fun o ho => ?_⟩ (by show l.length - (i + 1) < l.length - i; omega) (by first | (simp -implicitDefEqProofs only [go_sem, RegH, RefH, nO, nM, nV, nF, nL, rO, rL, rF, rN, Val.v, Val.row, irow, prow, Val.none]; done) | (simp -implicitDefEqProofs only [go_sem, RegH, RefH, nO, nM, nV, nF, nL, rO, rL, rF, rN, Val.v, Val.row, irow, prow, Val.none]; simp))
      rw [List.take_add_one, hx, Option.toList_some] at ho
      rcases List.mem_append.1 ho with ho | ho
      · exact hp o ho
      · simp at ho; subst ho; omega
  · have hil : i = l.length := by omega
    subst hil
    rw [List.take_length] at hp
    symm
    simp [isLarge]
    exact ⟨by omega, hp⟩

/-- The registry after calls. -/
def after (l : List Op) : Reg := l.foldl Reg.step ⟨[], [], []⟩
theorem after_succ {l : List Op} {i : Nat} {o : Op} (h : l[i]? = some o) : after (l.take (i + 1)) = (after (l.take i)).step o := by
  rw [after, List.take_add_one, h, Option.toList_some, List.foldl_append]; rfl
theorem step_vals (R : Reg) (o : Op) : (R.step o).vals.length ≤ R.vals.length + 1 := by
  unfold Reg.step Reg.ref Reg.unref Reg.put
  repeat' split
  all_goals simp <;> omega
theorem fold_ok : ∀ (l : List Op) (R : Reg), R.OK → (l.foldl Reg.step R).OK ∧ (l.foldl Reg.step R).vals.length ≤ R.vals.length + l.length
  | [], R, h => ⟨h, Nat.le_refl _⟩
  | o :: l, R, h => by
    obtain ⟨h1, h2⟩ := fold_ok l (R.step o) (h.step o)
    have := step_vals R o
    exact ⟨h1, by simp only [List.foldl_cons, List.length_cons]; omega⟩
theorem after_ok (l : List Op) : (after l).OK := (fold_ok l _ .new).1
theorem after_vals (l : List Op) : (after l).vals.length ≤ l.length := by have := (fold_ok l ⟨[], [], []⟩ .new).2; simpa [after] using this

theorem made_c (l : List Op) (hl : l.length ≤ 300) (n : Nat) :
    CallS Try.prog 11 [.isl (l.map Op.row)] [] n
      (fun r h' _ => ∃ so sm sv sf so2 sl sf2 sn, r = .tup [.ptr nO so 0 0, .ptr rO so2 0 0, .bool true] ∧ h' = RegH so sm sv sf (after l) ++ RefH so2 sl sf2 sn (after l)) := by
  refine CallS.enterK scriptinglaw18_made_ok (Nat.le_of_ble_eq_true rfl) fun Q hQ => Run.go 100 ?_
  simp -implicitDefEqProofs only [go_sem, RegH, RefH, nO, nM, nV, nF, nL, rO, rL, rF, rN, Val.v, Val.row, irow, prow, Val.none, initSl]
  refine (new_c _).mono ?_
  rintro r h' n1 ⟨so, sm, sv, sf, rfl, rfl⟩
  simp -implicitDefEqProofs only [go_sem, RegH, RefH, nO, nM, nV, nF, nL, rO, rL, rF, rN, Val.v, Val.row, irow, prow, Val.none]
  refine CallS.at [] [0, 1, 2, 3] (rnew_c _) rfl rfl ?_
  rintro r h' n2 hn2 ⟨so2, sl, sf2, sn, rfl, rfl⟩
  simp -implicitDefEqProofs only [go_sem, RegH, RefH, nO, nM, nV, nF, nL, rO, rL, rF, rN, Val.v, Val.row, irow, prow, Val.none]
  refine Run.rounds (fun (x : Nat × Nat × Nat × Nat × Nat × Nat × Nat) => ⟨[(7, .int .i64 (x.1 : Int)), (6, .ptr rO so2 0 0), (5, .ptr nO so 0 0), (0, .isl (l.map Op.row))],
      RegH so sm x.2.1 x.2.2.1 (after (l.take x.1)) ++ RefH so2 x.2.2.2.1 x.2.2.2.2.1 x.2.2.2.2.2.1 (after (l.take x.1)), x.2.2.2.2.2.2⟩)
    (fun x => x.1 ≤ l.length) (fun x => l.length - x.1) (0, sv, sf, sl, sf2, sn, n2) (by first | (simp -implicitDefEqProofs only [go_sem, RegH, RefH, nO, nM, nV, nF, nL, rO, rL, rF, rN, Val.v, Val.row, irow, prow, Val.none, List.take_zero, after, List.foldl_nil]; done) | (simp -implicitDefEqProofs only [go_sem, RegH, RefH, nO, nM, nV, nF, nL, rO, rL, rF, rN, Val.v, Val.row, irow, prow, Val.none, List.take_zero, after, List.foldl_nil]; simp)) (Nat.zero_le _) ?_
  rintro ⟨i, sv, sf, sl, sf2, sn, n⟩ hi ih
  dsimp only at hi ih ⊢
  refine Run.unf scriptinglaw18_made_l0_eq (Run.go 100 ?_)
  simp -implicitDefEqProofs only [go_sem, RegH, RefH, nO, nM, nV, nF, nL, rO, rL, rF, rN, Val.v, Val.row, irow, prow, Val.none]
  refine ⟨fun c1 => ?_, fun c1 => ?_⟩
  · refine ⟨by omega, by omega, oprows, by omega, fun x hx => ?_⟩
    simp -implicitDefEqProofs only [go_sem, RegH, RefH, nO, nM, nV, nF, nL, rO, rL, rF, rN, Val.v, Val.row, irow, prow, Val.none, Op.row]
    refine (step_c (after (l.take i)) (after (l.take i)) so sm sv sf so2 sl sf2 sn _ x (after_ok _) (after_ok _)).mono ?_
    rintro r h' n3 ⟨b, sv1, sf1, sl1, sf3, sn1, rfl, hb, rfl⟩
    rw [hb rfl, ← after_succ hx]
    simp -implicitDefEqProofs only [go_sem, RegH, RefH, nO, nM, nV, nF, nL, rO, rL, rF, rN, Val.v, Val.row, irow, prow, Val.none]
    exact ⟨by omega, ih _ (i + 1, sv1, sf1, sl1, sf3, sn1, n3) (by dsimp only; omega) (by dsimp only; omega) (by first | (simp -implicitDefEqProofs only [go_sem, RegH, RefH, nO, nM, nV, nF, nL, rO, rL, rF, rN, Val.v, Val.row, irow, prow, Val.none]; done) | (simp -implicitDefEqProofs only [go_sem, RegH, RefH, nO, nM, nV, nF, nL, rO, rL, rF, rN, Val.v, Val.row, irow, prow, Val.none]; simp))⟩
  · have hil : i = l.length := by omega
    subst hil
    rw [List.take_length]
    subst hQ
    exact .is ⟨so, sm, sv, sf, so2, sl, sf2, sn, rfl, rfl⟩
end Go.Proofs.Ytlmmmplgogbjgaa
