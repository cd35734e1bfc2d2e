/-
 What 'flow.Next' answers. No condition.
-/
import Derived.Test.YtfkfphpnijkdlaaGreatDoorSetM
import Derived.Test.YtfkfphpnijkdlaaGreatDoorOpc3
import Derived.Test.YtfkfphpnijkdlaaGreatDoorWk
set_option linter.unusedVariables false
set_option linter.unusedSimpArgs false
set_option maxRecDepth 100000
set_option maxHeartbeats 0
namespace Go.Proofs.YtfkfphpnijkdlaaGreatDoor
open Go.Abs
attribute [local irreducible] CallS Run
-- EV: Ins.v, Ins.row
def tgtL (code : List Ins) (i : Ins) : List Int := if isJump i.op = true ∧ 0 ≤ i.b ∧ i.b < code.length then [i.b] else []
def fallL (code : List Ins) (at_ : Int) (i : Ins) : List Int := if falls i.op = true ∧ at_ + 1 < code.length then [at_ + 1] else []
def nextL (code : List Ins) (at_ : Int) : List Int :=
 if at_ < 0 ∨ at_ ≥ code.length then [] else
 match code[at_.toNat]? with
 | some i => normZ (tgtL code i ++ fallL code at_ i)
 | none => []
theorem next_pure (code : List Ins) (at_ : Int) (hc : code.length ≤ 100000) (c0 c1 c2 c3 c4 c6 c7 c8 c9 c10 : V) :
  Pure Tryz.prog 34 [.agg [c0, c1, c2, c3, c4, .isl (code.map Ins.row), c6, c7, c8, c9, c10], .int .i64 at_] (.isl ((nextL code at_).map zrw)) := by
 refine Pure.of 1 (CallS.enter flow_Next_ok (Nat.le_of_ble_eq_true rfl) ?_)
 have hrow : ∀ (k : Nat) (x : Ins), code[k]? = some x → (code.map Ins.row)[k]? = some x.row := fun k x h => by rw [List.getElem?_map, h]; rfl
 have hlen : (code.map Ins.row).length = code.length := List.length_map ..
 have hsz : rowsz (code.map Ins.row) 5 = True := eq_true fun r hr => by obtain ⟨y, _, rfl⟩ := List.mem_map.1 hr; rfl
 generalize code.map Ins.row = es at *
 refine Run.go 100 ?_
 by_cases h1 : at_ < 0
 ·have e : nextL code at_ = [] := by rw [nextL, if_pos (.inl h1)]
  rw [e]
  simp -implicitDefEqProofs only [go_sem, Ins.v, Ins.row, initSl, h1]
 by_cases h2 : (code.length : Int) ≤ at_
 ·have e : nextL code at_ = [] := by rw [nextL, if_pos (.inr h2)]
  rw [e]
  simp -implicitDefEqProofs only [go_sem, Ins.v, Ins.row, initSl, h1, h2, hlen]
 obtain ⟨i, hi⟩ : ∃ i, code[at_.toNat]? = some i := ⟨code[at_.toNat]'(by omega), by simp⟩
 have hr := hrow _ _ hi
 have k0 : ((0 : Int) ≤ at_) = True := eq_true (by omega)
 have k1 : (at_ < (code.length : Int)) = True := eq_true (by omega)
 have k2 : (at_.toNat < code.length) = True := eq_true (by omega)
 have e : nextL code at_ = normZ (tgtL code i ++ fallL code at_ i) := by rw [nextL, if_neg (by omega), hi]
 rw [e]
 clear e
 simp -implicitDefEqProofs only [go_sem, Ins.v, Ins.row, initSl, h1, h2, hlen, hr, hsz, k0, k1, k2, Option.some.injEq, forall_eq']
 refine CallS.pureF (target_pure i) (by simp -implicitDefEqProofs only [go_sem, Ins.v, Ins.row]) ?_
 by_cases hT : isJump i.op = true ∧ 0 ≤ i.b ∧ i.b < code.length
 ·have eT : tgtL code i = [i.b] := if_pos hT
  rw [eT, hT.1]
  have t1 := eq_true hT.2.1
  have t2 := eq_true hT.2.2
  simp -implicitDefEqProofs only [go_sem, Ins.v, Ins.row, t1, t2, hlen, hr, hsz, k0, k1, k2, Option.some.injEq, forall_eq']
  refine CallS.pureF (falls_pure i) (by simp -implicitDefEqProofs only [go_sem, Ins.v, Ins.row]) ?_
  by_cases hF : falls i.op = true ∧ at_ + 1 < code.length
  ·have eF : fallL code at_ i = [at_ + 1] := if_pos hF
   rw [eF, hF.1]
   have f1 := eq_true hF.2
   simp -implicitDefEqProofs only [go_sem, Ins.v, Ins.row, f1, hlen, hr, hsz, k0, k1, k2, Option.some.injEq, forall_eq']
   refine ⟨by omega, by omega, ?_⟩
   refine CallS.at [0] [1] (sort_m [i.b, at_ + 1] (m := 2) rfl (by omega) (by omega) _ _ _) rfl rfl ?_
   rintro r h' n' hn ⟨rfl, rfl⟩
   simp -implicitDefEqProofs only [go_sem, Ins.v, Ins.row]
   refine CallS.at [0] [1] (compact_m (sortZ [i.b, at_ + 1]) (m := 2) (by simp [sortZ]) (by omega) (by omega) _ _ _) rfl rfl ?_
   rintro r h' n' hn ⟨rfl, rfl⟩
   simp -implicitDefEqProofs only [go_sem, Ins.v, Ins.row, compact_take, frzZ, Nat.le_add_right]
   try rfl
  ·have eF : fallL code at_ i = [] := if_neg hF
   rw [eF]
   cases hf : falls i.op with
   | false =>
    simp -implicitDefEqProofs only [go_sem, Ins.v, Ins.row, hlen, hr, hsz, k0, k1, k2, Option.some.injEq, forall_eq']
    refine CallS.at [0] [1] (sort_m [i.b] (m := 1) rfl (by omega) (by omega) _ _ _) rfl rfl ?_
    rintro r h' n' hn ⟨rfl, rfl⟩
    simp -implicitDefEqProofs only [go_sem, Ins.v, Ins.row]
    refine CallS.at [0] [1] (compact_m (sortZ [i.b]) (m := 1) (by simp [sortZ]) (by omega) (by omega) _ _ _) rfl rfl ?_
    rintro r h' n' hn ⟨rfl, rfl⟩
    simp -implicitDefEqProofs only [go_sem, Ins.v, Ins.row, compact_take, frzZ, Nat.le_add_right]
    try rfl
   | true =>
    have f1 := eq_false (fun h => hF ⟨hf, h⟩)
    simp -implicitDefEqProofs only [go_sem, Ins.v, Ins.row, f1, hlen, hr, hsz, k0, k1, k2, Option.some.injEq, forall_eq']
    refine ⟨by omega, ?_⟩
    refine CallS.at [0] [1] (sort_m [i.b] (m := 1) rfl (by omega) (by omega) _ _ _) rfl rfl ?_
    rintro r h' n' hn ⟨rfl, rfl⟩
    simp -implicitDefEqProofs only [go_sem, Ins.v, Ins.row]
    refine CallS.at [0] [1] (compact_m (sortZ [i.b]) (m := 1) (by simp [sortZ]) (by omega) (by omega) _ _ _) rfl rfl ?_
    rintro r h' n' hn ⟨rfl, rfl⟩
    simp -implicitDefEqProofs only [go_sem, Ins.v, Ins.row, compact_take, frzZ, Nat.le_add_right]
    try rfl
 ·have eT : tgtL code i = [] := if_neg hT
  rw [eT]
  cases hj : isJump i.op with
  | false =>
   simp -implicitDefEqProofs only [go_sem, Ins.v, Ins.row, hlen, hr, hsz, k0, k1, k2, Option.some.injEq, forall_eq']
   refine CallS.pureF (falls_pure i) (by simp -implicitDefEqProofs only [go_sem, Ins.v, Ins.row]) ?_
   by_cases hF : falls i.op = true ∧ at_ + 1 < code.length
   ·have eF : fallL code at_ i = [at_ + 1] := if_pos hF
    rw [eF, hF.1]
    have f1 := eq_true hF.2
    simp -implicitDefEqProofs only [go_sem, Ins.v, Ins.row, f1, hlen, hr, hsz, k0, k1, k2, Option.some.injEq, forall_eq']
    refine ⟨by omega, by omega, ?_⟩
    refine CallS.at [0] [1] (sort_m [at_ + 1] (m := 1) rfl (by omega) (by omega) _ _ _) rfl rfl ?_
    rintro r h' n' hn ⟨rfl, rfl⟩
    simp -implicitDefEqProofs only [go_sem, Ins.v, Ins.row]
    refine CallS.at [0] [1] (compact_m (sortZ [at_ + 1]) (m := 1) (by simp [sortZ]) (by omega) (by omega) _ _ _) rfl rfl ?_
    rintro r h' n' hn ⟨rfl, rfl⟩
    simp -implicitDefEqProofs only [go_sem, Ins.v, Ins.row, compact_take, frzZ, Nat.le_add_right]
    try rfl
   ·have eF : fallL code at_ i = [] := if_neg hF
    rw [eF]
    cases hf : falls i.op with
    | false =>
     simp -implicitDefEqProofs only [go_sem, Ins.v, Ins.row, hlen, hr, hsz, k0, k1, k2, Option.some.injEq, forall_eq']
     refine CallS.pure sort_nil (by simp -implicitDefEqProofs only [go_sem, Ins.v, Ins.row]) ?_
     simp -implicitDefEqProofs only [go_sem, Ins.v, Ins.row]
     refine CallS.pure compact_nil (by simp -implicitDefEqProofs only [go_sem, Ins.v, Ins.row]) ?_
     simp -implicitDefEqProofs only [go_sem, Ins.v, Ins.row, normZ_nil]
    | true =>
     have f1 := eq_false (fun h => hF ⟨hf, h⟩)
     simp -implicitDefEqProofs only [go_sem, Ins.v, Ins.row, f1, hlen, hr, hsz, k0, k1, k2, Option.some.injEq, forall_eq']
     refine ⟨by omega, ?_⟩
     refine CallS.pure sort_nil (by simp -implicitDefEqProofs only [go_sem, Ins.v, Ins.row]) ?_
     simp -implicitDefEqProofs only [go_sem, Ins.v, Ins.row]
     refine CallS.pure compact_nil (by simp -implicitDefEqProofs only [go_sem, Ins.v, Ins.row]) ?_
     simp -implicitDefEqProofs only [go_sem, Ins.v, Ins.row, normZ_nil]
  | true =>
   by_cases hb : 0 ≤ i.b
   ·have t1 := eq_true hb
    have t2 := eq_false (fun h => hT ⟨hj, hb, h⟩)
    simp -implicitDefEqProofs only [go_sem, Ins.v, Ins.row, t1, t2, hlen, hr, hsz, k0, k1, k2, Option.some.injEq, forall_eq']
    refine CallS.pureF (falls_pure i) (by simp -implicitDefEqProofs only [go_sem, Ins.v, Ins.row]) ?_
    by_cases hF : falls i.op = true ∧ at_ + 1 < code.length
    ·have eF : fallL code at_ i = [at_ + 1] := if_pos hF
     rw [eF, hF.1]
     have f1 := eq_true hF.2
     simp -implicitDefEqProofs only [go_sem, Ins.v, Ins.row, f1, hlen, hr, hsz, k0, k1, k2, Option.some.injEq, forall_eq']
     refine ⟨by omega, by omega, ?_⟩
     refine CallS.at [0] [1] (sort_m [at_ + 1] (m := 1) rfl (by omega) (by omega) _ _ _) rfl rfl ?_
     rintro r h' n' hn ⟨rfl, rfl⟩
     simp -implicitDefEqProofs only [go_sem, Ins.v, Ins.row]
     refine CallS.at [0] [1] (compact_m (sortZ [at_ + 1]) (m := 1) (by simp [sortZ]) (by omega) (by omega) _ _ _) rfl rfl ?_
     rintro r h' n' hn ⟨rfl, rfl⟩
     simp -implicitDefEqProofs only [go_sem, Ins.v, Ins.row, compact_take, frzZ, Nat.le_add_right]
     try rfl
    ·have eF : fallL code at_ i = [] := if_neg hF
     rw [eF]
     cases hf : falls i.op with
     | false =>
      simp -implicitDefEqProofs only [go_sem, Ins.v, Ins.row, hlen, hr, hsz, k0, k1, k2, Option.some.injEq, forall_eq']
      refine CallS.pure sort_nil (by simp -implicitDefEqProofs only [go_sem, Ins.v, Ins.row]) ?_
      simp -implicitDefEqProofs only [go_sem, Ins.v, Ins.row]
      refine CallS.pure compact_nil (by simp -implicitDefEqProofs only [go_sem, Ins.v, Ins.row]) ?_
      simp -implicitDefEqProofs only [go_sem, Ins.v, Ins.row, normZ_nil]
     | true =>
      have f1 := eq_false (fun h => hF ⟨hf, h⟩)
      simp -implicitDefEqProofs only [go_sem, Ins.v, Ins.row, f1, hlen, hr, hsz, k0, k1, k2, Option.some.injEq, forall_eq']
      refine ⟨by omega, ?_⟩
      refine CallS.pure sort_nil (by simp -implicitDefEqProofs only [go_sem, Ins.v, Ins.row]) ?_
      simp -implicitDefEqProofs only [go_sem, Ins.v, Ins.row]
      refine CallS.pure compact_nil (by simp -implicitDefEqProofs only [go_sem, Ins.v, Ins.row]) ?_
      simp -implicitDefEqProofs only [go_sem, Ins.v, Ins.row, normZ_nil]
   ·have t1 := eq_false hb
    simp -implicitDefEqProofs only [go_sem, Ins.v, Ins.row, t1, hlen, hr, hsz, k0, k1, k2, Option.some.injEq, forall_eq']
    refine CallS.pureF (falls_pure i) (by simp -implicitDefEqProofs only [go_sem, Ins.v, Ins.row]) ?_
    by_cases hF : falls i.op = true ∧ at_ + 1 < code.length
    ·have eF : fallL code at_ i = [at_ + 1] := if_pos hF
     rw [eF, hF.1]
     have f1 := eq_true hF.2
     simp -implicitDefEqProofs only [go_sem, Ins.v, Ins.row, f1, hlen, hr, hsz, k0, k1, k2, Option.some.injEq, forall_eq']
     refine ⟨by omega, by omega, ?_⟩
     refine CallS.at [0] [1] (sort_m [at_ + 1] (m := 1) rfl (by omega) (by omega) _ _ _) rfl rfl ?_
     rintro r h' n' hn ⟨rfl, rfl⟩
     simp -implicitDefEqProofs only [go_sem, Ins.v, Ins.row]
     refine CallS.at [0] [1] (compact_m (sortZ [at_ + 1]) (m := 1) (by simp [sortZ]) (by omega) (by omega) _ _ _) rfl rfl ?_
     rintro r h' n' hn ⟨rfl, rfl⟩
     simp -implicitDefEqProofs only [go_sem, Ins.v, Ins.row, compact_take, frzZ, Nat.le_add_right]
     try rfl
    ·have eF : fallL code at_ i = [] := if_neg hF
     rw [eF]
     cases hf : falls i.op with
     | false =>
      simp -implicitDefEqProofs only [go_sem, Ins.v, Ins.row, hlen, hr, hsz, k0, k1, k2, Option.some.injEq, forall_eq']
      refine CallS.pure sort_nil (by simp -implicitDefEqProofs only [go_sem, Ins.v, Ins.row]) ?_
      simp -implicitDefEqProofs only [go_sem, Ins.v, Ins.row]
      refine CallS.pure compact_nil (by simp -implicitDefEqProofs only [go_sem, Ins.v, Ins.row]) ?_
      simp -implicitDefEqProofs only [go_sem, Ins.v, Ins.row, normZ_nil]
     | true =>
      have f1 := eq_false (fun h => hF ⟨hf, h⟩)
      simp -implicitDefEqProofs only [go_sem, Ins.v, Ins.row, f1, hlen, hr, hsz, k0, k1, k2, Option.some.injEq, forall_eq']
      refine ⟨by omega, ?_⟩
      refine CallS.pure sort_nil (by simp -implicitDefEqProofs only [go_sem, Ins.v, Ins.row]) ?_
      simp -implicitDefEqProofs only [go_sem, Ins.v, Ins.row]
      refine CallS.pure compact_nil (by simp -implicitDefEqProofs only [go_sem, Ins.v, Ins.row]) ?_
      simp -implicitDefEqProofs only [go_sem, Ins.v, Ins.row, normZ_nil]
end Go.Proofs.YtfkfphpnijkdlaaGreatDoor
