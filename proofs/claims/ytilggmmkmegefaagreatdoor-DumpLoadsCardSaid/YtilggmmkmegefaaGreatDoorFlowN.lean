/-
 What 'flow.Next' answers. No condition.
-/
import Derived.Test.YtilggmmkmegefaaGreatDoorSetM
import Derived.Test.YtilggmmkmegefaaGreatDoorOpc3
import Derived.Test.YtilggmmkmegefaaGreatDoorWk
set_option linter.unusedVariables false
set_option linter.unusedSimpArgs false
set_option maxRecDepth 100000
set_option maxHeartbeats 0
namespace Go.Proofs.YtilggmmkmegefaaGreatDoor
open Go.Abs
attribute [local irreducible] A4 Run
-- EV: Ins.v, Ins.row
def C0p (code : List Ins) (i : Ins) : List Int := if A3U i.op = true ∧ 0 ≤ i.b ∧ i.b < code.length then [i.b] else []
def A4m (code : List Ins) (at_ : Int) (i : Ins) : List Int := if A1m i.op = true ∧ at_ + 1 < code.length then [at_ + 1] else []
def F4 (code : List Ins) (at_ : Int) : List Int :=
 if at_ < 0 ∨ at_ ≥ code.length then [] else
 match code[at_.toNat]? with
 | some i => Y4 (C0p code i ++ A4m code at_ i)
 | none => []
theorem B2J (code : List Ins) (at_ : Int) (hc : code.length ≤ 100000) (c0 c1 c2 c3 c4 c6 c7 c8 c9 c10 : V) :
  Pure Tryz.prog 82 [.agg [c0, c1, c2, c3, c4, .isl (code.map Ins.row), c6, c7, c8, c9, c10], .int .i64 at_] (.isl ((F4 code at_).map zrw)) := by
 refine Pure.of 1 (A4.enter A8e (Nat.le_of_ble_eq_true rfl) ?_)
 have hrow : ∀ (k : Nat) (x : Ins), code[k]? = some x → (code.map Ins.row)[k]? = some x.row := fun k x h => by rw [List.getElem?_map, h]; rfl
 have hlen : (code.map Ins.row).length = code.length := List.length_map ..
 have hsz : C6 (code.map Ins.row) 5 = True := eq_true fun r hr => by obtain ⟨y, _, rfl⟩ := List.mem_map.1 hr; rfl
 generalize code.map Ins.row = es at *
 refine Run.go 100 ?_
 by_cases h1 : at_ < 0
 ·have e : F4 code at_ = [] := by rw [F4, if_pos (.inl h1)]
  rw [e]
  simp -implicitDefEqProofs only [go_sem, Ins.v, Ins.row, B3, h1]
 by_cases h2 : (code.length : Int) ≤ at_
 ·have e : F4 code at_ = [] := by rw [F4, if_pos (.inr h2)]
  rw [e]
  simp -implicitDefEqProofs only [go_sem, Ins.v, Ins.row, B3, h1, h2, hlen]
 obtain ⟨i, hi⟩ : ∃ i, code[at_.toNat]? = some i := ⟨code[at_.toNat]'(by omega), by simp⟩
 have hr := hrow _ _ hi
 have k0 : ((0 : Int) ≤ at_) = True := eq_true (by omega)
 have k1 : (at_ < (code.length : Int)) = True := eq_true (by omega)
 have k2 : (at_.toNat < code.length) = True := eq_true (by omega)
 have e : F4 code at_ = Y4 (C0p code i ++ A4m code at_ i) := by rw [F4, if_neg (by omega), hi]
 rw [e]
 clear e
 simp -implicitDefEqProofs only [go_sem, Ins.v, Ins.row, B3, h1, h2, hlen, hr, hsz, k0, k1, k2, Option.some.injEq, forall_eq']
 refine A4.pureF (B0b i) (by simp -implicitDefEqProofs only [go_sem, Ins.v, Ins.row]) ?_
 by_cases hT : A3U i.op = true ∧ 0 ≤ i.b ∧ i.b < code.length
 ·have eT : C0p code i = [i.b] := if_pos hT
  rw [eT, hT.1]
  have t1 := eq_true hT.2.1
  have t2 := eq_true hT.2.2
  simp -implicitDefEqProofs only [go_sem, Ins.v, Ins.row, t1, t2, hlen, hr, hsz, k0, k1, k2, Option.some.injEq, forall_eq']
  refine A4.pureF (A0Z i) (by simp -implicitDefEqProofs only [go_sem, Ins.v, Ins.row]) ?_
  by_cases hF : A1m i.op = true ∧ at_ + 1 < code.length
  ·have eF : A4m code at_ i = [at_ + 1] := if_pos hF
   rw [eF, hF.1]
   have f1 := eq_true hF.2
   simp -implicitDefEqProofs only [go_sem, Ins.v, Ins.row, f1, hlen, hr, hsz, k0, k1, k2, Option.some.injEq, forall_eq']
   refine ⟨by omega, by omega, ?_⟩
   refine A4.at [0] [1] (A7L [i.b, at_ + 1] (m := 2) rfl (by omega) (by omega) _ _ _) rfl rfl ?_
   rintro r h' n' hn ⟨rfl, rfl⟩
   simp -implicitDefEqProofs only [go_sem, Ins.v, Ins.row]
   refine A4.at [0] [1] (i6 (O9 [i.b, at_ + 1]) (m := 2) (by simp [O9]) (by omega) (by omega) _ _ _) rfl rfl ?_
   rintro r h' n' hn ⟨rfl, rfl⟩
   simp -implicitDefEqProofs only [go_sem, Ins.v, Ins.row, M8, A4X, Nat.le_add_right]
   try rfl
  ·have eF : A4m code at_ i = [] := if_neg hF
   rw [eF]
   cases hf : A1m i.op with
   | false =>
    simp -implicitDefEqProofs only [go_sem, Ins.v, Ins.row, hlen, hr, hsz, k0, k1, k2, Option.some.injEq, forall_eq']
    refine A4.at [0] [1] (A7L [i.b] (m := 1) rfl (by omega) (by omega) _ _ _) rfl rfl ?_
    rintro r h' n' hn ⟨rfl, rfl⟩
    simp -implicitDefEqProofs only [go_sem, Ins.v, Ins.row]
    refine A4.at [0] [1] (i6 (O9 [i.b]) (m := 1) (by simp [O9]) (by omega) (by omega) _ _ _) rfl rfl ?_
    rintro r h' n' hn ⟨rfl, rfl⟩
    simp -implicitDefEqProofs only [go_sem, Ins.v, Ins.row, M8, A4X, Nat.le_add_right]
    try rfl
   | true =>
    have f1 := eq_false (fun h => hF ⟨hf, h⟩)
    simp -implicitDefEqProofs only [go_sem, Ins.v, Ins.row, f1, hlen, hr, hsz, k0, k1, k2, Option.some.injEq, forall_eq']
    refine ⟨by omega, ?_⟩
    refine A4.at [0] [1] (A7L [i.b] (m := 1) rfl (by omega) (by omega) _ _ _) rfl rfl ?_
    rintro r h' n' hn ⟨rfl, rfl⟩
    simp -implicitDefEqProofs only [go_sem, Ins.v, Ins.row]
    refine A4.at [0] [1] (i6 (O9 [i.b]) (m := 1) (by simp [O9]) (by omega) (by omega) _ _ _) rfl rfl ?_
    rintro r h' n' hn ⟨rfl, rfl⟩
    simp -implicitDefEqProofs only [go_sem, Ins.v, Ins.row, M8, A4X, Nat.le_add_right]
    try rfl
 ·have eT : C0p code i = [] := if_neg hT
  rw [eT]
  cases hj : A3U i.op with
  | false =>
   simp -implicitDefEqProofs only [go_sem, Ins.v, Ins.row, hlen, hr, hsz, k0, k1, k2, Option.some.injEq, forall_eq']
   refine A4.pureF (A0Z i) (by simp -implicitDefEqProofs only [go_sem, Ins.v, Ins.row]) ?_
   by_cases hF : A1m i.op = true ∧ at_ + 1 < code.length
   ·have eF : A4m code at_ i = [at_ + 1] := if_pos hF
    rw [eF, hF.1]
    have f1 := eq_true hF.2
    simp -implicitDefEqProofs only [go_sem, Ins.v, Ins.row, f1, hlen, hr, hsz, k0, k1, k2, Option.some.injEq, forall_eq']
    refine ⟨by omega, by omega, ?_⟩
    refine A4.at [0] [1] (A7L [at_ + 1] (m := 1) rfl (by omega) (by omega) _ _ _) rfl rfl ?_
    rintro r h' n' hn ⟨rfl, rfl⟩
    simp -implicitDefEqProofs only [go_sem, Ins.v, Ins.row]
    refine A4.at [0] [1] (i6 (O9 [at_ + 1]) (m := 1) (by simp [O9]) (by omega) (by omega) _ _ _) rfl rfl ?_
    rintro r h' n' hn ⟨rfl, rfl⟩
    simp -implicitDefEqProofs only [go_sem, Ins.v, Ins.row, M8, A4X, Nat.le_add_right]
    try rfl
   ·have eF : A4m code at_ i = [] := if_neg hF
    rw [eF]
    cases hf : A1m i.op with
    | false =>
     simp -implicitDefEqProofs only [go_sem, Ins.v, Ins.row, hlen, hr, hsz, k0, k1, k2, Option.some.injEq, forall_eq']
     refine A4.pure A2K (by simp -implicitDefEqProofs only [go_sem, Ins.v, Ins.row]) ?_
     simp -implicitDefEqProofs only [go_sem, Ins.v, Ins.row]
     refine A4.pure U5 (by simp -implicitDefEqProofs only [go_sem, Ins.v, Ins.row]) ?_
     simp -implicitDefEqProofs only [go_sem, Ins.v, Ins.row, A0o]
    | true =>
     have f1 := eq_false (fun h => hF ⟨hf, h⟩)
     simp -implicitDefEqProofs only [go_sem, Ins.v, Ins.row, f1, hlen, hr, hsz, k0, k1, k2, Option.some.injEq, forall_eq']
     refine ⟨by omega, ?_⟩
     refine A4.pure A2K (by simp -implicitDefEqProofs only [go_sem, Ins.v, Ins.row]) ?_
     simp -implicitDefEqProofs only [go_sem, Ins.v, Ins.row]
     refine A4.pure U5 (by simp -implicitDefEqProofs only [go_sem, Ins.v, Ins.row]) ?_
     simp -implicitDefEqProofs only [go_sem, Ins.v, Ins.row, A0o]
  | true =>
   by_cases hb : 0 ≤ i.b
   ·have t1 := eq_true hb
    have t2 := eq_false (fun h => hT ⟨hj, hb, h⟩)
    simp -implicitDefEqProofs only [go_sem, Ins.v, Ins.row, t1, t2, hlen, hr, hsz, k0, k1, k2, Option.some.injEq, forall_eq']
    refine A4.pureF (A0Z i) (by simp -implicitDefEqProofs only [go_sem, Ins.v, Ins.row]) ?_
    by_cases hF : A1m i.op = true ∧ at_ + 1 < code.length
    ·have eF : A4m code at_ i = [at_ + 1] := if_pos hF
     rw [eF, hF.1]
     have f1 := eq_true hF.2
     simp -implicitDefEqProofs only [go_sem, Ins.v, Ins.row, f1, hlen, hr, hsz, k0, k1, k2, Option.some.injEq, forall_eq']
     refine ⟨by omega, by omega, ?_⟩
     refine A4.at [0] [1] (A7L [at_ + 1] (m := 1) rfl (by omega) (by omega) _ _ _) rfl rfl ?_
     rintro r h' n' hn ⟨rfl, rfl⟩
     simp -implicitDefEqProofs only [go_sem, Ins.v, Ins.row]
     refine A4.at [0] [1] (i6 (O9 [at_ + 1]) (m := 1) (by simp [O9]) (by omega) (by omega) _ _ _) rfl rfl ?_
     rintro r h' n' hn ⟨rfl, rfl⟩
     simp -implicitDefEqProofs only [go_sem, Ins.v, Ins.row, M8, A4X, Nat.le_add_right]
     try rfl
    ·have eF : A4m code at_ i = [] := if_neg hF
     rw [eF]
     cases hf : A1m i.op with
     | false =>
      simp -implicitDefEqProofs only [go_sem, Ins.v, Ins.row, hlen, hr, hsz, k0, k1, k2, Option.some.injEq, forall_eq']
      refine A4.pure A2K (by simp -implicitDefEqProofs only [go_sem, Ins.v, Ins.row]) ?_
      simp -implicitDefEqProofs only [go_sem, Ins.v, Ins.row]
      refine A4.pure U5 (by simp -implicitDefEqProofs only [go_sem, Ins.v, Ins.row]) ?_
      simp -implicitDefEqProofs only [go_sem, Ins.v, Ins.row, A0o]
     | true =>
      have f1 := eq_false (fun h => hF ⟨hf, h⟩)
      simp -implicitDefEqProofs only [go_sem, Ins.v, Ins.row, f1, hlen, hr, hsz, k0, k1, k2, Option.some.injEq, forall_eq']
      refine ⟨by omega, ?_⟩
      refine A4.pure A2K (by simp -implicitDefEqProofs only [go_sem, Ins.v, Ins.row]) ?_
      simp -implicitDefEqProofs only [go_sem, Ins.v, Ins.row]
      refine A4.pure U5 (by simp -implicitDefEqProofs only [go_sem, Ins.v, Ins.row]) ?_
      simp -implicitDefEqProofs only [go_sem, Ins.v, Ins.row, A0o]
   ·have t1 := eq_false hb
    simp -implicitDefEqProofs only [go_sem, Ins.v, Ins.row, t1, hlen, hr, hsz, k0, k1, k2, Option.some.injEq, forall_eq']
    refine A4.pureF (A0Z i) (by simp -implicitDefEqProofs only [go_sem, Ins.v, Ins.row]) ?_
    by_cases hF : A1m i.op = true ∧ at_ + 1 < code.length
    ·have eF : A4m code at_ i = [at_ + 1] := if_pos hF
     rw [eF, hF.1]
     have f1 := eq_true hF.2
     simp -implicitDefEqProofs only [go_sem, Ins.v, Ins.row, f1, hlen, hr, hsz, k0, k1, k2, Option.some.injEq, forall_eq']
     refine ⟨by omega, by omega, ?_⟩
     refine A4.at [0] [1] (A7L [at_ + 1] (m := 1) rfl (by omega) (by omega) _ _ _) rfl rfl ?_
     rintro r h' n' hn ⟨rfl, rfl⟩
     simp -implicitDefEqProofs only [go_sem, Ins.v, Ins.row]
     refine A4.at [0] [1] (i6 (O9 [at_ + 1]) (m := 1) (by simp [O9]) (by omega) (by omega) _ _ _) rfl rfl ?_
     rintro r h' n' hn ⟨rfl, rfl⟩
     simp -implicitDefEqProofs only [go_sem, Ins.v, Ins.row, M8, A4X, Nat.le_add_right]
     try rfl
    ·have eF : A4m code at_ i = [] := if_neg hF
     rw [eF]
     cases hf : A1m i.op with
     | false =>
      simp -implicitDefEqProofs only [go_sem, Ins.v, Ins.row, hlen, hr, hsz, k0, k1, k2, Option.some.injEq, forall_eq']
      refine A4.pure A2K (by simp -implicitDefEqProofs only [go_sem, Ins.v, Ins.row]) ?_
      simp -implicitDefEqProofs only [go_sem, Ins.v, Ins.row]
      refine A4.pure U5 (by simp -implicitDefEqProofs only [go_sem, Ins.v, Ins.row]) ?_
      simp -implicitDefEqProofs only [go_sem, Ins.v, Ins.row, A0o]
     | true =>
      have f1 := eq_false (fun h => hF ⟨hf, h⟩)
      simp -implicitDefEqProofs only [go_sem, Ins.v, Ins.row, f1, hlen, hr, hsz, k0, k1, k2, Option.some.injEq, forall_eq']
      refine ⟨by omega, ?_⟩
      refine A4.pure A2K (by simp -implicitDefEqProofs only [go_sem, Ins.v, Ins.row]) ?_
      simp -implicitDefEqProofs only [go_sem, Ins.v, Ins.row]
      refine A4.pure U5 (by simp -implicitDefEqProofs only [go_sem, Ins.v, Ins.row]) ?_
      simp -implicitDefEqProofs only [go_sem, Ins.v, Ins.row, A0o]
end Go.Proofs.YtilggmmkmegefaaGreatDoor
