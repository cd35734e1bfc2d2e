/-
  Registry: a step of both registries. No condition.
-/
import Derived.Test.YtlmmmplgogbjgaaRegR
import Derived.Test.YtlmmmplgogbjgaaLaw7
set_option linter.unusedVariables false
set_option linter.unusedSimpArgs false
set_option maxRecDepth 100000
set_option maxHeartbeats 0
namespace Go.Proofs.Ytlmmmplgogbjgaa
open Go.Abs
attribute [local irreducible] CallS Run
-- EV: RegH, RefH, nO, nM, nV, nF, nL, rO, rL, rF, rN, Val.v, Val.row, irow, prow, Val.none

def Reg.step (R : Reg) (o : Op) : Reg :=
  if o.kind = 0 then (R.ref o.v).2.2
  else if o.kind = 1 then (R.unref o.r).2
  else if o.kind = 2 then R
  else if o.kind = 3 then (R.put o.name o.v).2
  else R

theorem Reg.OK.step {R : Reg} (h : R.OK) (o : Op) : (R.step o).OK := by
  unfold Reg.step
  repeat' split
  · exact h.ref _
  · exact h.unref _
  · exact h
  · exact h.put _ _
  · exact h

theorem step_c (R R2 : Reg) (so sm sv sf so2 sl sf2 sn n : Nat) (o : Op) (hok : R.OK) (hok2 : R2.OK) :
    CallS Try.prog 9 [.ptr nO so 0 0, .ptr rO so2 0 0, .agg o.row] (RegH so sm sv sf R ++ RefH so2 sl sf2 sn R2) n
      (fun r h' _ => ∃ b sv sf sl sf2 sn, r = .bool b ∧ (R = R2 → b = true) ∧ h' = RegH so sm sv sf (R.step o) ++ RefH so2 sl sf2 sn (R2.step o)) := by
  refine CallS.enterK scriptinglaw18_step_ok (Nat.le_of_ble_eq_true rfl) fun Q hQ => Run.go 100 ?_
  simp -implicitDefEqProofs only [go_sem, RegH, RefH, nO, nM, nV, nF, nL, rO, rL, rF, rN, Val.v, Val.row, irow, prow, Val.none, initSl, Op.row]
  refine ⟨fun c0 => ?_, fun c0 => ⟨fun c1 => ⟨?_, ?_⟩, fun c1 => ⟨fun c2 => ?_, fun c2 => ⟨fun c3 => ⟨?_, ?_, ?_, ?_⟩, fun c3 => ?_⟩⟩⟩⟩
  · have hS : ∀ X : Reg, X.step o = (X.ref o.v).2.2 := fun X => by rw [Reg.step, if_pos c0]
    simp only [hS] at hQ
    refine CallS.at [1, 2, 3, 4] [0, 5, 6, 7, 8] (ref_c R so sm sv sf _ o.v hok) rfl rfl ?_
    rintro r h' n1 hn1 ⟨sv1, sf1, rfl, rfl⟩
    simp -implicitDefEqProofs only [go_sem, RegH, RefH, nO, nM, nV, nF, nL, rO, rL, rF, rN, Val.v, Val.row, irow, prow, Val.none]
    refine CallS.at [5, 6, 7, 8] [0, 1, 2, 3, 4] (rref_c R2 so2 sl sf2 sn _ o.v hok2) rfl rfl ?_
    rintro r h' n2 hn2 ⟨sl1, sf3, rfl, rfl⟩
    simp -implicitDefEqProofs only [go_sem, RegH, RefH, nO, nM, nV, nF, nL, rO, rL, rF, rN, Val.v, Val.row, irow, prow, Val.none]
    refine ⟨fun d => ?_, fun d => ?_⟩
    · subst hQ; exact .to ⟨_, sv1, sf1, sl1, sf3, sn, rfl, fun e => by subst e; first | rfl | (simp; done) | (exact absurd rfl ‹_›) | (simp at d; done) | (simp_all; done), rfl⟩ (.sub (by simp -implicitDefEqProofs only [go_sem, RegH, RefH, nO, nM, nV, nF, nL, rO, rL, rF, rN, Val.v, Val.row, irow, prow, Val.none]))
    · subst hQ; exact .to ⟨_, sv1, sf1, sl1, sf3, sn, rfl, fun e => by subst e; first | rfl | (simp; done) | (exact absurd rfl ‹_›) | (simp at d; done) | (simp_all; done), rfl⟩ (.sub (by simp -implicitDefEqProofs only [go_sem, RegH, RefH, nO, nM, nV, nF, nL, rO, rL, rF, rN, Val.v, Val.row, irow, prow, Val.none]))
  · have hS : ∀ X : Reg, X.step o = (X.unref o.r).2 := fun X => by rw [Reg.step, if_neg c0, if_pos c1]
    simp only [hS] at hQ
    refine CallS.at [1, 2, 3, 4] [0, 5, 6, 7, 8] (unref_c R so sm sv sf _ o.r hok) rfl rfl ?_
    rintro r h' n1 hn1 ⟨sv1, sf1, rfl, rfl⟩
    simp -implicitDefEqProofs only [go_sem, RegH, RefH, nO, nM, nV, nF, nL, rO, rL, rF, rN, Val.v, Val.row, irow, prow, Val.none]
    refine CallS.at [5, 6, 7, 8] [0, 1, 2, 3, 4] (runref_c R2 so2 sl sf2 sn _ o.r hok2) rfl rfl ?_
    rintro r h' n2 hn2 ⟨sl1, sf3, rfl, rfl⟩
    simp -implicitDefEqProofs only [go_sem, RegH, RefH, nO, nM, nV, nF, nL, rO, rL, rF, rN, Val.v, Val.row, irow, prow, Val.none]
    subst hQ; exact .to ⟨_, sv1, sf1, sl1, sf3, sn, rfl, fun e => by subst e; first | rfl | (simp; done) | (exact absurd rfl ‹_›) | (simp at d; done) | (simp_all; done), rfl⟩ (.sub (by simp -implicitDefEqProofs only [go_sem, RegH, RefH, nO, nM, nV, nF, nL, rO, rL, rF, rN, Val.v, Val.row, irow, prow, Val.none]))
  · have hS : ∀ X : Reg, X.step o = (X.unref o.r).2 := fun X => by rw [Reg.step, if_neg c0, if_pos c1]
    simp only [hS] at hQ
    refine CallS.at [1, 2, 3, 4] [0, 5, 6, 7, 8] (unref_c R so sm sv sf _ o.r hok) rfl rfl ?_
    rintro r h' n1 hn1 ⟨sv1, sf1, rfl, rfl⟩
    simp -implicitDefEqProofs only [go_sem, RegH, RefH, nO, nM, nV, nF, nL, rO, rL, rF, rN, Val.v, Val.row, irow, prow, Val.none]
    refine CallS.at [5, 6, 7, 8] [0, 1, 2, 3, 4] (runref_c R2 so2 sl sf2 sn _ o.r hok2) rfl rfl ?_
    rintro r h' n2 hn2 ⟨sl1, sf3, rfl, rfl⟩
    simp -implicitDefEqProofs only [go_sem, RegH, RefH, nO, nM, nV, nF, nL, rO, rL, rF, rN, Val.v, Val.row, irow, prow, Val.none]
    subst hQ; exact .to ⟨_, sv1, sf1, sl1, sf3, sn, rfl, fun e => by subst e; first | rfl | (simp; done) | (exact absurd rfl ‹_›) | (simp at d; done) | (simp_all; done), rfl⟩ (.sub (by simp -implicitDefEqProofs only [go_sem, RegH, RefH, nO, nM, nV, nF, nL, rO, rL, rF, rN, Val.v, Val.row, irow, prow, Val.none]))
  · have hS : ∀ X : Reg, X.step o = X := fun X => by rw [Reg.step, if_neg c0, if_neg c1, if_pos c2]
    simp only [hS] at hQ
    refine CallS.at [1, 2, 3, 4] [0, 5, 6, 7, 8] (value_c R so sm sv sf _ o.r hok) rfl rfl ?_
    rintro r h' n1 hn1 ⟨rfl, rfl⟩
    simp -implicitDefEqProofs only [go_sem, RegH, RefH, nO, nM, nV, nF, nL, rO, rL, rF, rN, Val.v, Val.row, irow, prow, Val.none]
    refine CallS.at [6, 7, 8, 9] [0, 1, 2, 3, 4, 5] (rvalue_c R2 so2 sl sf2 sn _ o.r hok2) rfl rfl ?_
    rintro r h' n2 hn2 ⟨rfl, rfl⟩
    simp -implicitDefEqProofs only [go_sem, RegH, RefH, nO, nM, nV, nF, nL, rO, rL, rF, rN, Val.v, Val.row, irow, prow, Val.none]
    refine ⟨fun d => ?_, fun d => ?_⟩
    · subst hQ; exact .to ⟨_, sv, sf, sl, sf2, sn, rfl, fun e => by subst e; first | rfl | (simp; done) | (exact absurd rfl ‹_›) | (simp at d; done) | (simp_all; done), rfl⟩ (.sub (by simp -implicitDefEqProofs only [go_sem, RegH, RefH, nO, nM, nV, nF, nL, rO, rL, rF, rN, Val.v, Val.row, irow, prow, Val.none]))
    · subst hQ; exact .to ⟨_, sv, sf, sl, sf2, sn, rfl, fun e => by subst e; first | rfl | (simp; done) | (exact absurd rfl ‹_›) | (simp at d; done) | (simp_all; done), rfl⟩ (.sub (by simp -implicitDefEqProofs only [go_sem, RegH, RefH, nO, nM, nV, nF, nL, rO, rL, rF, rN, Val.v, Val.row, irow, prow, Val.none]))
  · have hS : ∀ X : Reg, X.step o = (X.put o.name o.v).2 := fun X => by rw [Reg.step, if_neg c0, if_neg c1, if_neg c2, if_pos c3]
    simp only [hS] at hQ
    refine CallS.at [1, 2, 3, 4] [0, 5, 6, 7, 8] (put_c R so sm sv sf _ o.name o.v hok) rfl rfl ?_
    rintro r h' n1 hn1 ⟨rfl, rfl⟩
    simp -implicitDefEqProofs only [go_sem, RegH, RefH, nO, nM, nV, nF, nL, rO, rL, rF, rN, Val.v, Val.row, irow, prow, Val.none]
    refine CallS.at [5, 6, 7, 8] [0, 1, 2, 3, 4] (rput_c R2 so2 sl sf2 sn _ o.name o.v hok2) rfl rfl ?_
    rintro r h' n2 hn2 ⟨sn1, rfl, rfl⟩
    simp -implicitDefEqProofs only [go_sem, RegH, RefH, nO, nM, nV, nF, nL, rO, rL, rF, rN, Val.v, Val.row, irow, prow, Val.none]
    subst hQ; exact .to ⟨_, sv, sf, sl, sf2, sn1, rfl, fun e => by subst e; first | rfl | (simp; done) | (exact absurd rfl ‹_›) | (simp at d; done) | (simp_all; done), rfl⟩ (.sub (by simp -implicitDefEqProofs only [go_sem, RegH, RefH, nO, nM, nV, nF, nL, rO, rL, rF, rN, Val.v, Val.row, irow, prow, Val.none]))
  · have hS : ∀ X : Reg, X.step o = (X.put o.name o.v).2 := fun X => by rw [Reg.step, if_neg c0, if_neg c1, if_neg c2, if_pos c3]
    simp only [hS] at hQ
    refine CallS.at [1, 2, 3, 4] [0, 5, 6, 7, 8] (put_c R so sm sv sf _ o.name o.v hok) rfl rfl ?_
    rintro r h' n1 hn1 ⟨rfl, rfl⟩
    simp -implicitDefEqProofs only [go_sem, RegH, RefH, nO, nM, nV, nF, nL, rO, rL, rF, rN, Val.v, Val.row, irow, prow, Val.none]
    refine CallS.at [5, 6, 7, 8] [0, 1, 2, 3, 4] (rput_c R2 so2 sl sf2 sn _ o.name o.v hok2) rfl rfl ?_
    rintro r h' n2 hn2 ⟨sn1, rfl, rfl⟩
    simp -implicitDefEqProofs only [go_sem, RegH, RefH, nO, nM, nV, nF, nL, rO, rL, rF, rN, Val.v, Val.row, irow, prow, Val.none]
    subst hQ; exact .to ⟨_, sv, sf, sl, sf2, sn1, rfl, fun e => by subst e; first | rfl | (simp; done) | (exact absurd rfl ‹_›) | (simp at d; done) | (simp_all; done), rfl⟩ (.sub (by simp -implicitDefEqProofs only [go_sem, RegH, RefH, nO, nM, nV, nF, nL, rO, rL, rF, rN, Val.v, Val.row, irow, prow, Val.none]))
  · have hS : ∀ X : Reg, X.step o = (X.put o.name o.v).2 := fun X => by rw [Reg.step, if_neg c0, if_neg c1, if_neg c2, if_pos c3]
    simp only [hS] at hQ
    refine CallS.at [1, 2, 3, 4] [0, 5, 6, 7, 8] (put_c R so sm sv sf _ o.name o.v hok) rfl rfl ?_
    rintro r h' n1 hn1 ⟨rfl, rfl⟩
    simp -implicitDefEqProofs only [go_sem, RegH, RefH, nO, nM, nV, nF, nL, rO, rL, rF, rN, Val.v, Val.row, irow, prow, Val.none]
    refine CallS.at [5, 6, 7, 8] [0, 1, 2, 3, 4] (rput_c R2 so2 sl sf2 sn _ o.name o.v hok2) rfl rfl ?_
    rintro r h' n2 hn2 ⟨sn1, rfl, rfl⟩
    simp -implicitDefEqProofs only [go_sem, RegH, RefH, nO, nM, nV, nF, nL, rO, rL, rF, rN, Val.v, Val.row, irow, prow, Val.none]
    subst hQ; exact .to ⟨_, sv, sf, sl, sf2, sn1, rfl, fun e => by subst e; first | rfl | (simp; done) | (exact absurd rfl ‹_›) | (simp at d; done) | (simp_all; done), rfl⟩ (.sub (by simp -implicitDefEqProofs only [go_sem, RegH, RefH, nO, nM, nV, nF, nL, rO, rL, rF, rN, Val.v, Val.row, irow, prow, Val.none]))
  · have hS : ∀ X : Reg, X.step o = (X.put o.name o.v).2 := fun X => by rw [Reg.step, if_neg c0, if_neg c1, if_neg c2, if_pos c3]
    simp only [hS] at hQ
    refine CallS.at [1, 2, 3, 4] [0, 5, 6, 7, 8] (put_c R so sm sv sf _ o.name o.v hok) rfl rfl ?_
    rintro r h' n1 hn1 ⟨rfl, rfl⟩
    simp -implicitDefEqProofs only [go_sem, RegH, RefH, nO, nM, nV, nF, nL, rO, rL, rF, rN, Val.v, Val.row, irow, prow, Val.none]
    refine CallS.at [5, 6, 7, 8] [0, 1, 2, 3, 4] (rput_c R2 so2 sl sf2 sn _ o.name o.v hok2) rfl rfl ?_
    rintro r h' n2 hn2 ⟨sn1, rfl, rfl⟩
    simp -implicitDefEqProofs only [go_sem, RegH, RefH, nO, nM, nV, nF, nL, rO, rL, rF, rN, Val.v, Val.row, irow, prow, Val.none]
    subst hQ; exact .to ⟨_, sv, sf, sl, sf2, sn1, rfl, fun e => by subst e; first | rfl | (simp; done) | (exact absurd rfl ‹_›) | (simp at d; done) | (simp_all; done), rfl⟩ (.sub (by simp -implicitDefEqProofs only [go_sem, RegH, RefH, nO, nM, nV, nF, nL, rO, rL, rF, rN, Val.v, Val.row, irow, prow, Val.none]))
  · have hS : ∀ X : Reg, X.step o = X := fun X => by rw [Reg.step, if_neg c0, if_neg c1, if_neg c2, if_neg c3]
    simp only [hS] at hQ
    refine CallS.at [1, 2, 3, 4] [0, 5, 6, 7, 8] (find_c R so sm sv sf _ o.name) rfl rfl ?_
    rintro r h' n1 hn1 ⟨rfl, rfl⟩
    simp -implicitDefEqProofs only [go_sem, RegH, RefH, nO, nM, nV, nF, nL, rO, rL, rF, rN, Val.v, Val.row, irow, prow, Val.none]
    refine CallS.at [6, 7, 8, 9] [0, 1, 2, 3, 4, 5] (rfind_c R2 so2 sl sf2 sn _ o.name hok2) rfl rfl ?_
    rintro r h' n2 hn2 ⟨rfl, rfl⟩
    simp -implicitDefEqProofs only [go_sem, RegH, RefH, nO, nM, nV, nF, nL, rO, rL, rF, rN, Val.v, Val.row, irow, prow, Val.none]
    refine ⟨fun d => ?_, fun d => ?_⟩
    · subst hQ; exact .to ⟨_, sv, sf, sl, sf2, sn, rfl, fun e => by subst e; first | rfl | (simp; done) | (exact absurd rfl ‹_›) | (simp at d; done) | (simp_all; done), rfl⟩ (.sub (by simp -implicitDefEqProofs only [go_sem, RegH, RefH, nO, nM, nV, nF, nL, rO, rL, rF, rN, Val.v, Val.row, irow, prow, Val.none]))
    · subst hQ; exact .to ⟨_, sv, sf, sl, sf2, sn, rfl, fun e => by subst e; first | rfl | (simp; done) | (exact absurd rfl ‹_›) | (simp at d; done) | (simp_all; done), rfl⟩ (.sub (by simp -implicitDefEqProofs only [go_sem, RegH, RefH, nO, nM, nV, nF, nL, rO, rL, rF, rN, Val.v, Val.row, irow, prow, Val.none]))
end Go.Proofs.Ytlmmmplgogbjgaa
