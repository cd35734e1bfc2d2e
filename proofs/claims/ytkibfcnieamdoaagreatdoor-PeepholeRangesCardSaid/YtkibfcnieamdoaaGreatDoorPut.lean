/-
  Sets of registers as arrays: 'size' and 'put' of flow. No condition.
-/
import Derived.Test.YtkibfcnieamdoaaGreatDoorRwM
import Derived.Test.YtkibfcnieamdoaaGreatDoorPro
import Derived.Test.YtkibfcnieamdoaaGreatDoorWk
set_option linter.unusedVariables false
set_option linter.unusedSimpArgs false
set_option maxRecDepth 100000
set_option maxHeartbeats 0
namespace Go.Proofs.YtkibfcnieamdoaaGreatDoor
open Go.Abs
attribute [local irreducible] CallS Run
-- EV: Ins.v, Ins.row
def regN (z : Int) : Nat := (min (max z 0) 4096).toNat
theorem regN_le (z : Int) : regN z ≤ 4096 := by unfold regN; omega
theorem size_pure (z : Int) (c0 c1 c2 c3 c5 c6 c7 c8 c9 c10 : V) : Pure Tryz.prog 41 [.agg [c0, c1, c2, c3, .int .i64 z, c5, c6, c7, c8, c9, c10]] (.int .i64 (regN z)) := by
  refine Pure.of 0 (CallS.enter flow_size_ok (Nat.le_of_ble_eq_true rfl) ?_)
  refine Run.go 100 ?_
  simp -implicitDefEqProofs only [go_sem, Ins.v, Ins.row, initSl]
  unfold regN
  (repeat' split) <;> omega
def rowF (f : Nat → Bool) : List V := (List.range 4096).map fun x => .bool (f x)
theorem rowF_len (f : Nat → Bool) : (rowF f).length = 4096 := by simp [rowF]
theorem rowF_none : rowF (fun _ => false) = List.replicate 4096 (.bool false) := by
  unfold rowF; rw [List.map_const']; simp
theorem rowF_at {f : Nat → Bool} {x : Nat} (h : x < 4096) : (rowF f)[x]? = some (.bool (f x)) := by simp [rowF, h]
theorem rowF_put {f : Nat → Bool} {x : Nat} (h : x < 4096) : putCells (rowF f) x [.bool true] = rowF (fun y => f y || decide (y = x)) := by
  have hl := rowF_len f
  have e : putCells (rowF f) x [.bool true] = (rowF f).set x (.bool true) := by
    rw [List.set_eq_take_append_cons_drop, if_pos (by omega)]
    simp [putCells]
  rw [e]
  refine List.ext_getElem? fun i => ?_
  rw [List.getElem?_set]
  by_cases hi : i < 4096
  · rw [rowF_at hi, rowF_at hi]
    by_cases c : x = i
    · subst c; simp [hl, h]
    · rw [if_neg c]; simp [show ¬ i = x from fun e => c e.symm]
  · rw [if_neg (by omega), List.getElem?_eq_none (by rw [rowF_len]; omega), List.getElem?_eq_none (by rw [rowF_len]; omega)]
def putB (N : Nat) (l : List Int) (from_ : Int) (f : Nat → Bool) : Nat → Bool := fun r => f r || (decide (r < N) && (decide ((r : Int) ∈ l) || decide (0 ≤ from_ ∧ from_ ≤ r)))
def putT (N : Nat) (l : List Int) (k : Nat) (f : Nat → Bool) : Nat → Bool := fun r => f r || (decide (r < N) && decide ((r : Int) ∈ l.take k))
def putU (N : Nat) (l : List Int) (a x : Int) (f : Nat → Bool) : Nat → Bool := fun r => f r || (decide (r < N) && (decide ((r : Int) ∈ l) || decide (a ≤ r ∧ (r : Int) < x)))
theorem putT_zero (N : Nat) (l : List Int) (f : Nat → Bool) : putT N l 0 f = f := by funext r; simp [putT]
theorem putT_yes {N : Nat} {l : List Int} {k : Nat} {f : Nat → Bool} {x : Nat} (h : l[k]? = some (x : Int)) (hx : x < N) : (fun y => putT N l k f y || decide (y = x)) = putT N l (k + 1) f := by
  funext r
  unfold putT
  rw [List.take_add_one, h]
  by_cases c : r = x
  · subst c; simp [hx]
  · have : ¬ (r : Int) = (x : Int) := by omega
    simp [c, this]
theorem putT_no {N : Nat} {l : List Int} {k : Nat} {f : Nat → Bool} {x : Int} (h : l[k]? = some x) (hx : ¬ (0 ≤ x ∧ x < N)) : putT N l (k + 1) f = putT N l k f := by
  funext r
  unfold putT
  rw [List.take_add_one, h]
  by_cases c : r < N
  · have : ¬ (r : Int) = x := by omega
    simp [this]
  · simp [c]
theorem putU_start {N : Nat} {l : List Int} {a : Int} {f : Nat → Bool} : putU N l a a f = putT N l l.length f := by
  funext r
  unfold putU putT
  rw [List.take_length]
  have : ¬ (a ≤ (r : Int) ∧ (r : Int) < a) := by omega
  simp only [this, decide_false, Bool.or_false]
theorem putU_step {N : Nat} {l : List Int} {a : Int} {f : Nat → Bool} {x : Nat} (ha : a ≤ x) (hx : x < N) : (fun y => putU N l a x f y || decide (y = x)) = putU N l a ((x : Int) + 1) f := by
  funext r
  unfold putU
  by_cases c : r = x
  · subst c; simp [hx, ha]; omega
  · have : ((r : Int) < (x : Int) + 1) = ((r : Int) < x) := by rw [eq_iff_iff]; omega
    simp only [this, c, decide_false, Bool.or_false]
theorem putU_end {N : Nat} {l : List Int} {a x : Int} {f : Nat → Bool} (ha : 0 ≤ a) (hx : (N : Int) ≤ x) : putU N l a x f = putB N l a f := by
  funext r
  unfold putU putB
  by_cases c : r < N
  · have e : (a ≤ (r : Int) ∧ (r : Int) < x) = (0 ≤ a ∧ a ≤ (r : Int)) := by rw [eq_iff_iff]; omega
    simp only [e]
  · simp [c]
theorem putB_no {N : Nat} {l : List Int} {a : Int} {f : Nat → Bool} (ha : a < 0) : putB N l a f = putT N l l.length f := by
  funext r
  unfold putB putT
  rw [List.take_length]
  have : ¬ (0 ≤ a ∧ a ≤ (r : Int)) := by omega
  simp only [this, decide_false, Bool.or_false]
theorem put_c (z : Int) (l : List Int) (from_ : Int) (hl : l.length ≤ 100000) (hf : -1 ≤ from_) (f : Nat → Bool) (b st n : Nat) (hb : b ≠ (78 * 10000 + 5)) (c0 c1 c2 c3 c5 c6 c7 c8 c9 c10 : V) (hc0 : [c0, c1, c2, c3, c5, c6, c7, c8, c9, c10].map (V.sub lost) = [c0, c1, c2, c3, c5, c6, c7, c8, c9, c10]) :
    CallS Tryz.prog 78 [.ptr b st 0 0, .agg [c0, c1, c2, c3, .int .i64 z, c5, c6, c7, c8, c9, c10], .isl (l.map zrw), .int .i64 from_] [(b, st, .rows 4096 [rowF f])] n
      (fun r h' n' => r = .tup [] ∧ h' = [(b, st, .rows 4096 [rowF (putB (regN z) l from_ f)])]) := by
  refine CallS.enterK flow_registers_put_ok (Nat.le_of_ble_eq_true rfl) fun Q hQ => Run.go 100 ?_
  simp only [List.map_cons, List.map_nil, List.cons.injEq, and_true] at hc0
  have hlen : (l.map zrw).length = l.length := List.length_map ..
  have hrow : ∀ (k : Nat) (x : Int), l[k]? = some x → (l.map zrw)[k]? = some [.int .i64 x] := fun k x h => (by rw [List.getElem?_map, h]; rfl)
  have hsz := rowszZ' l
  have hN := regN_le z
  have hsp := size_pure z
  generalize regN z = N at *
  generalize l.map zrw = es at *
  have hb' := eq_false hb
  simp only [Nat.reduceMul, Nat.reduceAdd] at hb'
  simp -implicitDefEqProofs only [go_sem, Ins.v, Ins.row, initSl, hb']
  refine CallS.pureF (hsp c0 c1 c2 c3 c5 c6 c7 c8 c9 c10) (by simp -implicitDefEqProofs only [go_sem, Ins.v, Ins.row, hc0]) ?_
  simp -implicitDefEqProofs only [go_sem, Ins.v, Ins.row]
  refine Run.rounds (fun (x : Nat) => ⟨[(16, .int .i64 x), (15, .int .i64 l.length), (14, .isl es), (8, .int .i64 N), (3, .int .i64 from_), (0, .ptr b st 0 0)], [(b, st, .rows 4096 [rowF (putT N l x f)])], n + 1⟩)
    (fun x => x ≤ l.length) (fun x => l.length - x) 0 (by simp -implicitDefEqProofs only [go_sem, Ins.v, Ins.row, putT_zero, hlen]) (by omega) ?_
  intro k hk ih
  have hz : ((k + 1 : Nat) : Int) = (k : Int) + 1 := by omega
  refine Run.unf flow_registers_put_l0_eq (Run.go 100 ?_)
  by_cases c : (k : Int) < l.length
  · obtain ⟨x, hx⟩ : ∃ x, l[k]? = some x := ⟨l[k]'(by omega), by simp⟩
    have hr := hrow k x hx
    have k0 : ((0 : Int) ≤ (k : Int)) = True := eq_true (by omega)
    have k1 : ((k : Int) < (l.length : Int)) = True := eq_true c
    have k2 : (k < l.length) = True := eq_true (by omega)
    by_cases d : 0 ≤ x ∧ x < N
    · obtain ⟨y, rfl⟩ : ∃ y : Nat, x = y := ⟨x.toNat, by omega⟩
      have d0 := eq_true d.1
      have d1 := eq_true d.2
      have d2 : ((y : Int) < 4096) = True := eq_true (by omega)
      have hp : (rowF (putT N l k f)).take y ++ [.bool true] ++ (rowF (putT N l k f)).drop (y + 1) = rowF (putT N l (k + 1) f) := by
        have := rowF_put (f := putT N l k f) (x := y) (by omega)
        rwa [putT_yes hx (by omega)] at this
      have d3 : y + 1 ≤ (rowF (putT N l k f)).length := by rw [rowF_len]; omega
      generalize rowF (putT N l k f) = R at *
      simp -implicitDefEqProofs only [go_sem, Ins.v, Ins.row, hlen, hr, hsz, k0, k1, k2, d0, d1, d2, hp, Option.some.injEq, forall_eq', Nat.beq_refl, Nat.mul_one]
      refine ⟨d3, by omega, ?_⟩
      refine ih _ (k + 1) (by omega) (by omega) ?_
      simp only [hz]
      simp -implicitDefEqProofs only [go_sem, Ins.v, Ins.row]
    · have e := putT_no (f := f) hx d
      by_cases d0 : 0 ≤ x
      · have e0 := eq_true d0
        have e1 := eq_false (fun h => d ⟨d0, h⟩)
        simp -implicitDefEqProofs only [go_sem, Ins.v, Ins.row, hlen, hr, hsz, k0, k1, k2, e0, e1, Option.some.injEq, forall_eq']
        refine ⟨by omega, ?_⟩
        refine ih _ (k + 1) (by omega) (by omega) ?_
        simp only [hz, e]
        simp -implicitDefEqProofs only [go_sem, Ins.v, Ins.row]
      · have e0 := eq_false d0
        simp -implicitDefEqProofs only [go_sem, Ins.v, Ins.row, hlen, hr, hsz, k0, k1, k2, e0, Option.some.injEq, forall_eq']
        refine ⟨by omega, ?_⟩
        refine ih _ (k + 1) (by omega) (by omega) ?_
        simp only [hz, e]
        simp -implicitDefEqProofs only [go_sem, Ins.v, Ins.row]
  · have e : k = l.length := by omega
    subst e
    clear ih
    by_cases hneg : from_ < 0
    · have e1 : (0 ≤ from_) = False := eq_false (by omega)
      simp -implicitDefEqProofs only [go_sem, Ins.v, Ins.row, c, e1, hlen]
      rw [← putB_no hneg]
      subst hQ
      exact .is ⟨rfl, rfl⟩
    · have e1 : (0 ≤ from_) = True := eq_true (by omega)
      simp -implicitDefEqProofs only [go_sem, Ins.v, Ins.row, c, e1, hlen]
      refine Run.rounds (fun (x : Nat) => ⟨[(11, .int .i64 (from_ + x)), (8, .int .i64 N), (0, .ptr b st 0 0)], [(b, st, .rows 4096 [rowF (putU N l from_ (from_ + x) f)])], n + 1⟩)
        (fun x => x ≤ N) (fun x => N - x) 0 (by simp -implicitDefEqProofs only [go_sem, Ins.v, Ins.row, putU_start, Int.add_zero]) (by omega) ?_
      intro k hk ih
      refine Run.unf flow_registers_put_l1_eq (Run.go 100 ?_)
      by_cases c : from_ + k < N
      · obtain ⟨y, hy⟩ : ∃ y : Nat, from_ + k = y := ⟨(from_ + k).toNat, by omega⟩
        have hz : from_ + ((k + 1 : Nat) : Int) = (y : Int) + 1 := by omega
        rw [hy] at c ⊢
        have d0 : ((0 : Int) ≤ (y : Int)) = True := eq_true (by omega)
        have d1 := eq_true c
        have d2 : ((y : Int) < 4096) = True := eq_true (by omega)
        have hp : (rowF (putU N l from_ y f)).take y ++ [.bool true] ++ (rowF (putU N l from_ y f)).drop (y + 1) = rowF (putU N l from_ ((y : Int) + 1) f) := by
          have := rowF_put (f := putU N l from_ y f) (x := y) (by omega)
          rwa [putU_step (by omega) (by omega)] at this
        have d3 : y + 1 ≤ (rowF (putU N l from_ y f)).length := by rw [rowF_len]; omega
        generalize rowF (putU N l from_ y f) = R at *
        simp -implicitDefEqProofs only [go_sem, Ins.v, Ins.row, d0, d1, d2, hp, Option.some.injEq, forall_eq', Nat.beq_refl, Nat.mul_one]
        refine ⟨d3, by omega, ?_⟩
        refine ih _ (k + 1) (by omega) (by omega) ?_
        simp only [hz]
        simp -implicitDefEqProofs only [go_sem, Ins.v, Ins.row]
      · simp -implicitDefEqProofs only [go_sem, Ins.v, Ins.row, c]
        rw [putU_end (by omega) (by omega)]
        subst hQ
        exact .is ⟨rfl, rfl⟩
end Go.Proofs.YtkibfcnieamdoaaGreatDoor
