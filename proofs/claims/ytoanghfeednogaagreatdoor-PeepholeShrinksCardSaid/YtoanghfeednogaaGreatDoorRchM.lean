/-
 What is reached. No condition.
-/
import Derived.Test.YtoanghfeednogaaGreatDoorFlowN
set_option linter.unusedVariables false
set_option linter.unusedSimpArgs false
set_option maxRecDepth 100000
set_option maxHeartbeats 0
namespace Go.Proofs.YtoanghfeednogaaGreatDoor
open Go.Abs
attribute [local irreducible] A2 Run
-- EV: Ins.v, Ins.row
attribute [local go_sem] Ins.v Ins.row
theorem D2E (φ : Nat → Nat → Nat → Nat → V) (ys : List Ins) : (ys.map Ins.row).map (fun r => r.map (V.sub φ)) = ys.map Ins.row := by
 rw [List.map_map]
 exact List.map_congr_left fun y _ => by simp [Ins.row, V.sub]
theorem A2N {code : List Ins} {at_ x : Int} (h : x ∈ C2 code at_) : 0 ≤ x ∧ x < code.length := by
 unfold C2 at h
 split at h
 ·cases h
 ·rename_i h0
  split at h
  ·rw [A2z] at h
   rcases List.mem_append.1 h with h | h
   ·unfold C2k at h
    split at h
    ·rename_i hc; rw [List.mem_singleton.1 h]; exact hc.2
    ·cases h
   ·unfold A4u at h
    split at h
    ·rename_i hc; rw [List.mem_singleton.1 h]; exact ⟨by omega, hc.2⟩
    ·cases h
  ·cases h
theorem p8 (code : List Ins) (at_ : Int) : (C2 code at_).length ≤ 2 := by
 have h1 : ∀ l : List Int, (Z6 l).length ≤ l.length := fun l => Nat.le_trans (Lib.compact_length_le _) (by simp [R6])
 unfold C2
 split
 ·simp
 split
 ·refine Nat.le_trans (h1 _) ?_
  unfold C2k A4u
  split <;> split <;> simp
 ·simp
inductive Path (code : List Ins) : Nat → Prop
 | zero : 0 < code.length → Path code 0
 | step {i j : Nat} : Path code i → (j : Int) ∈ C2 code i → Path code j
noncomputable def A2A (code : List Ins) (i : Nat) : Bool := @decide (Path code i) (Classical.propDecidable _)
theorem B3a {code : List Ins} {i : Nat} : A2A code i = true ↔ Path code i := by unfold A2A; simp
noncomputable def w9 (code : List Ins) : List Bool := (List.range code.length).map (A2A code)
theorem A8q (code : List Ins) : (w9 code).length = code.length := by simp [w9]
theorem B4y {code : List Ins} {i : Nat} (h : i < code.length) : (w9 code)[i]? = some (A2A code i) := by simp [w9, h]
theorem B7g {α : Type} (l : List α) : l = [] ∨ ∃ L b, l = L ++ [b] := by
 rcases List.eq_nil_or_concat l with h | ⟨L, b, h⟩
 ·exact .inl h
 ·exact .inr ⟨L, b, by rw [h, List.concat_eq_append]⟩
def brw (b : Bool) : List V := [.bool b]
structure RI (code : List Ins) (ms : List Bool) (td : List Int) : Prop where
 len : ms.length = code.length
 tdin : ∀ t ∈ td, ∃ i : Nat, t = i ∧ ms[i]? = some true
 path : ∀ i : Nat, ms[i]? = some true → Path code i
 closed : ∀ i : Nat, ms[i]? = some true → (i : Int) ∈ td ∨ ∀ j : Nat, (j : Int) ∈ C2 code i → ms[j]? = some true
 zero : 0 < code.length → ms[0]? = some true
structure RJ (code : List Ins) (a k : Nat) (ms : List Bool) (td : List Int) : Prop where
 len : ms.length = code.length
 tdin : ∀ t ∈ td, ∃ i : Nat, t = i ∧ ms[i]? = some true
 path : ∀ i : Nat, ms[i]? = some true → Path code i
 closed : ∀ i : Nat, ms[i]? = some true → (i : Int) ∈ td ∨ i = a ∨ ∀ j : Nat, (j : Int) ∈ C2 code i → ms[j]? = some true
 zero : 0 < code.length → ms[0]? = some true
 cur : ms[a]? = some true
 done : ∀ j : Nat, (j : Int) ∈ (C2 code a).take k → ms[j]? = some true
theorem RI.fin {code : List Ins} {ms : List Bool} (h : RI code ms []) : ms = w9 code := by
 have hall : ∀ i, Path code i → ms[i]? = some true := by
  intro i hp
  induction hp with
  | zero h0 => exact h.zero h0
  | step _ hj ih =>
   rcases h.closed _ ih with h1 | h1
   ·cases h1
   ·exact h1 _ hj
 refine List.ext_getElem? fun i => ?_
 by_cases hi : i < code.length
 ·rw [B4y hi]
  have : i < ms.length := by rw [h.len]; exact hi
  cases hb : ms[i] with
  | true =>
   have e : ms[i]? = some true := by simp [this, hb]
   rw [e, B3a.2 (h.path i e)]
  | false =>
   have e : ms[i]? = some false := by simp [this, hb]
   rw [e]
   cases hr : A2A code i with
   | false => rfl
   | true => rw [hall i (B3a.1 hr)] at e; cases e
 ·rw [List.getElem?_eq_none (by rw [h.len]; omega), List.getElem?_eq_none (by rw [A8q]; omega)]
theorem RI.pop {code : List Ins} {ms : List Bool} {td : List Int} {t : Int} (h : RI code ms (td ++ [t])) : ∃ a : Nat, t = a ∧ a < code.length ∧ RJ code a 0 ms td := by
 obtain ⟨a, rfl, ha⟩ := h.tdin t (by simp)
 refine ⟨a, rfl, by rw [← h.len]; exact (List.getElem?_eq_some_iff.1 ha).1, ⟨h.len, fun t ht => h.tdin t (by simp [ht]), h.path, fun i hi => ?_, h.zero, ha, fun j hj => by simp at hj⟩⟩
 rcases h.closed i hi with h1 | h1
 ·rcases List.mem_append.1 h1 with h1 | h1
  ·exact .inl h1
  ·exact .inr (.inl (by have := List.mem_singleton.1 h1; omega))
 ·exact .inr (.inr h1)
theorem RJ.over {code : List Ins} {a k : Nat} {ms : List Bool} {td : List Int} (h : RJ code a k ms td) (hk : (C2 code a).length ≤ k) : RI code ms td := by
 refine ⟨h.len, h.tdin, h.path, fun i hi => ?_, h.zero⟩
 rcases h.closed i hi with h1 | h1 | h1
 ·exact .inl h1
 ·subst h1
  refine .inr fun j hj => h.done j ?_
  rwa [List.take_of_length_le hk]
 ·exact .inr h1
theorem RJ.skip {code : List Ins} {a k j : Nat} {ms : List Bool} {td : List Int} (h : RJ code a k ms td) (hj : (C2 code a)[k]? = some (j : Int)) (hm : ms[j]? = some true) : RJ code a (k + 1) ms td := by
 refine ⟨h.len, h.tdin, h.path, h.closed, h.zero, h.cur, fun i hi => ?_⟩
 rw [List.take_add_one, hj] at hi
 rcases List.mem_append.1 hi with hi | hi
 ·exact h.done i hi
 ·have : i = j := Int.ofNat_inj.1 (by simpa using hi)
  subst this; exact hm
theorem RJ.mark {code : List Ins} {a k j : Nat} {ms : List Bool} {td : List Int} (h : RJ code a k ms td) (hj : (C2 code a)[k]? = some (j : Int)) (hm : ms[j]? = some false) : RJ code a (k + 1) (ms.set j true) (td ++ [(j : Int)]) := by
 have hjl : j < ms.length := (List.getElem?_eq_some_iff.1 hm).1
 have up : ∀ i : Nat, ms[i]? = some true → (ms.set j true)[i]? = some true := fun i hi => by
  rw [List.getElem?_set]
  split
  ·rename_i e; subst e; simp [hjl]
  ·exact hi
 have dn : ∀ i : Nat, (ms.set j true)[i]? = some true → i = j ∨ ms[i]? = some true := fun i hi => by
  rw [List.getElem?_set] at hi
  split at hi
  ·rename_i e; exact .inl e.symm
  ·exact .inr hi
 have hself : (ms.set j true)[j]? = some true := by simp [hjl]
 refine ⟨by rw [List.length_set]; exact h.len, fun t ht => ?_, fun i hi => ?_, fun i hi => ?_, fun h0 => up 0 (h.zero h0), up a h.cur, fun i hi => ?_⟩
 ·rcases List.mem_append.1 ht with ht | ht
  ·obtain ⟨i, e, hi⟩ := h.tdin t ht
   exact ⟨i, e, up i hi⟩
  ·exact ⟨j, List.mem_singleton.1 ht, hself⟩
 ·rcases dn i hi with e | hi
  ·subst e
   exact .step (h.path a h.cur) (List.mem_of_getElem? hj)
  ·exact h.path i hi
 ·rcases dn i hi with e | hi
  ·subst e; exact .inl (by simp)
  ·rcases h.closed i hi with h1 | h1 | h1
   ·exact .inl (by simp [h1])
   ·exact .inr (.inl h1)
   ·exact .inr (.inr fun x hx => up x (h1 x hx))
 ·rw [List.take_add_one, hj] at hi
  rcases List.mem_append.1 hi with hi | hi
  ·exact up i (h.done i hi)
  ·have : i = j := Int.ofNat_inj.1 (by simpa using hi)
   subst this; exact hself
theorem B2r {ms : List Bool} {j : Nat} (hm : ms[j]? = some false) : (ms.set j true).count false + 1 = ms.count false := by
 obtain ⟨hj, he⟩ := List.getElem?_eq_some_iff.1 hm
 have h1 : 0 < ms.count false := List.count_pos_iff.2 (he ▸ List.getElem_mem hj)
 rw [List.count_set hj, he]
 simp
 omega
theorem RI.start {code : List Ins} (h : 0 < code.length) : RI code ((List.replicate code.length false).set 0 true) [0] := by
 refine ⟨by simp, fun t ht => ⟨0, by simpa using ht, by simp [h]⟩, fun i hi => ?_, fun i hi => ?_, fun _ => by simp [h]⟩
 ·rw [List.getElem?_set] at hi
  split at hi
  ·rename_i e; subst e; exact .zero h
  ·rw [List.getElem?_replicate] at hi
   split at hi <;> cases hi
 ·rw [List.getElem?_set] at hi
  split at hi
  ·rename_i e; subst e; exact .inl (by simp)
  ·rw [List.getElem?_replicate] at hi
   split at hi <;> cases hi
theorem B7H {n : Nat} (h : 0 < n) : [(0 : Int)].length + ((List.replicate n false).set 0 true).count false ≤ n := by
 have := B2r (ms := List.replicate n false) (j := 0) (by simp [h])
 rw [List.count_replicate_self] at this
 simp only [List.length_cons, List.length_nil]
 omega
theorem B8T {code : List Ins} (h : code.length = 0) : w9 code = [] := List.eq_nil_of_length_eq_zero (by rw [A8q]; exact h)
-- EV: Ins.v, Ins.row
theorem D3p (d : Nat) (h : A0) (l : List Bool) : (l.map brw).map (fun r => r.map (frz d h)) = l.map brw := by
 rw [List.map_map]
 exact List.map_congr_left fun y _ => by simp [brw, C3n]
theorem C2D {l : List Bool} {k : Nat} {x : Bool} (h : l[k]? = some x) : (l.map brw)[k]? = some [.bool x] := by rw [List.getElem?_map, h]; rfl
theorem C5c (l : List Bool) (j : Nat) (x : Bool) : (l.map brw).set j [.bool x] = (l.set j x).map brw := by rw [List.map_set]; rfl
theorem B8U (code : List Ins) (hc : code.length ≤ 10000) (c0 c1 c2 c3 c4 c6 c7 c8 c9 c10 : V) (hb0 : [c0, c1, c2, c3, c4, c6, c7, c8, c9, c10].map (V.sub C0) = [c0, c1, c2, c3, c4, c6, c7, c8, c9, c10]) :
  Pure Tryz.prog 20 [.agg [c0, c1, c2, c3, c4, .isl (code.map Ins.row), c6, c7, c8, c9, c10]] (.isl ((w9 code).map brw)) := by
 refine Pure.of 1 (A2.enter A7s (Nat.le_of_ble_eq_true rfl) ?_)
 simp only [List.map_cons, List.map_nil, List.cons.injEq, and_true] at hb0
 have hnx := fun a => X5 code a (by omega) c0 c1 c2 c3 c4 c6 c7 c8 c9 c10
 have hlen : (code.map Ins.row).length = code.length := List.length_map ..
 have hsub : (code.map Ins.row).map (fun r => r.map (V.sub C0)) = code.map Ins.row := D2E C0 code
 generalize code.map Ins.row = es at *
 refine Run.go 100 ?_
 by_cases h0 : code.length = 0
 ·have e : es = [] := List.eq_nil_of_length_eq_zero (by omega)
  subst e
  rw [B8T h0]
  simp -implicitDefEqProofs only [go_sem, A5, List.length_nil]
  refine Run.rounds (fun (x : Nat) => ⟨[(4, .nils), (3, .sl (20 * 10000 + 11) 1 0 0)], [((20 * 10000 + 11), 1, .rows 1 [])], x⟩) (fun _ => True) (fun _ => 0) 2 (by simp -implicitDefEqProofs only [go_sem, List.replicate_zero]) trivial ?_
  rintro x _ ih
  refine Run.unf A2J (Run.go 100 ?_)
  simp -implicitDefEqProofs only [go_sem, List.length_nil]
 have hp : 0 < code.length := by omega
 have g0 := eq_true hp
 have g1 : ((0 : Int) < (code.length : Int)) = True := eq_true (by omega)
 have hrep : (List.replicate code.length [V.bool false])[0]? = some [.bool false] := by simp [hp]
 simp -implicitDefEqProofs only [go_sem, A5, hlen, g0, g1, hrep, Option.some.injEq, forall_eq', List.drop_one, List.tail_cons]
 refine ⟨by omega, by omega, ?_⟩
 refine Run.rounds (fun (x : List Int × List (List V) × List Bool × Nat × Nat) => ⟨[(4, .sl (20 * 10000 + 19) x.2.2.2.1 0 x.1.length), (3, .sl (20 * 10000 + 11) 1 0 code.length), (1, .ptr (20 * 10000 + 1) 0 0 0)], [((20 * 10000 + 19), x.2.2.2.1, .rows 1 x.2.1), ((20 * 10000 + 11), 1, .rows 1 (x.2.2.1.map brw)), ((20 * 10000 + 1), 0, .rows 11 [[c0, c1, c2, c3, c4, .isl es, c6, c7, c8, c9, c10]])], x.2.2.2.2⟩)
  (fun x => RI code x.2.2.1 x.1 ∧ x.2.1.take x.1.length = x.1.map zrw ∧ x.1.length ≤ x.2.1.length ∧ x.1.length + x.2.2.1.count false ≤ code.length) (fun x => 2 * x.2.2.1.count false + x.1.length) ([0], [[.int .i64 0]], (List.replicate code.length false).set 0 true, 2, 3) (by simp -implicitDefEqProofs only [go_sem, List.append_nil, List.map_cons, List.map_nil, zrw, List.length_cons, List.length_nil, List.map_set, List.map_replicate, brw]) ⟨RI.start hp, rfl, Nat.le_refl _, B7H hp⟩ ?_
 rintro ⟨td, R, ms, st, m⟩ ⟨hI, hR, hRl, hcnt⟩ ih
 simp only at hI ih hR hRl hcnt ⊢
 have hml := hI.len
 refine Run.unf A2J (Run.go 100 ?_)
 rcases B7g td with rfl | ⟨td, t, rfl⟩
 ·have hfin := hI.fin
  simp -implicitDefEqProofs only [go_sem, List.length_nil]
  rw [← hfin]
  have e : (ms.map brw).take code.length = ms.map brw := List.take_of_length_le (by simp [hml])
  have e2 : Nat.ble code.length (ms.map brw).length = true := Nat.ble_eq_true_of_le (by simp [hml])
  simp -implicitDefEqProofs only [go_sem, e, e2, hml]
  exact D3p _ _ _
 obtain ⟨a, rfl, ha, hJ0⟩ := hI.pop
 have hln : (td ++ [(a : Int)]).length = td.length + 1 := by simp
 rw [hln] at hR hRl hcnt ih ⊢
 generalize hT : td.length + 1 = T at *
 have q0 : ((0 : Int) < (T : Int)) = True := eq_true (by omega)
 have q1 : ((0 : Int) ≤ (T : Int) - 1) = True := eq_true (by omega)
 have q2 : (((T : Int) - 1) < (T : Int)) = True := eq_true (by omega)
 have q3 : ((T : Int) - 1).toNat = td.length := by omega
 have q3' : ((T : Int) - 1 - 0).toNat = td.length := by omega
 have q4 : R[td.length]? = some [.int .i64 a] := by
  have h1 : (R.take T)[td.length]? = some [.int .i64 a] := by rw [hR]; exact A8M (by simp)
  rwa [List.getElem?_take_of_lt (by omega)] at h1
 have q5 : (((T : Int) - 1) ≤ (T : Int)) = True := eq_true (by omega)
 have hR' : R.take td.length = td.map zrw := by
  have := congrArg (List.take td.length) hR
  rw [List.take_take, Nat.min_eq_left (by omega)] at this
  rw [this]; simp
 simp -implicitDefEqProofs only [go_sem, q0, q1, q2, q3, q3', q4, q5, Option.some.injEq, forall_eq']
 refine ⟨by omega, by omega, by omega, ?_⟩
 refine A2.pure (hnx a) (by simp -implicitDefEqProofs only [go_sem, hsub, hb0]) ?_
 have hnl := p8 code a
 have hnin := fun x (h : x ∈ C2 code a) => A2N h
 generalize hnle : C2 code a = nl at *
 have hnls : ∀ (k : Nat) (x : Int), nl[k]? = some x → (nl.map zrw)[k]? = some [.int .i64 x] := fun k x h => A8M h
 have hnll : (nl.map zrw).length = nl.length := List.length_map ..
 have hnlz := C8W nl
 have hnlf : (nl.map zrw).map (fun r => r.map (V.sub C0)) = nl.map zrw := A2K 0 [] nl
 generalize nl.map zrw = nls at *
 simp -implicitDefEqProofs only [go_sem, hnll]
 clear hnx hsub hrep hI
 refine Run.rounds (fun (x : Nat × List Int × List (List V) × List Bool × Nat × Nat) => ⟨[(38, .int .i64 (x.1 : Nat)), (37, .int .i64 nl.length), (36, .isl nls), (4, .sl (20 * 10000 + 19) x.2.2.2.2.1 0 x.2.1.length), (3, .sl (20 * 10000 + 11) 1 0 code.length), (1, .ptr (20 * 10000 + 1) 0 0 0)], [((20 * 10000 + 19), x.2.2.2.2.1, .rows 1 x.2.2.1), ((20 * 10000 + 11), 1, .rows 1 (x.2.2.2.1.map brw)), ((20 * 10000 + 1), 0, .rows 11 [[c0, c1, c2, c3, c4, .isl es, c6, c7, c8, c9, c10]])], x.2.2.2.2.2⟩)
  (fun x => x.1 ≤ nl.length ∧ RJ code a x.1 x.2.2.2.1 x.2.1 ∧ x.2.2.1.take x.2.1.length = x.2.1.map zrw ∧ x.2.1.length ≤ x.2.2.1.length ∧ x.2.1.length + x.2.2.2.1.count false ≤ code.length ∧ 2 * x.2.2.2.1.count false + x.2.1.length < 2 * ms.count false + T) (fun x => nl.length - x.1) (0, td, R, ms, st, m) (by simp -implicitDefEqProofs only [go_sem]) ⟨by simp only; omega, hJ0, hR', by simp only; omega, by simp only; omega, by simp only; omega⟩ ?_
 rintro ⟨k, td2, R2, ms2, st2, m2⟩ ⟨hk, hJ, hR2, hRl2, hcnt2, hmu⟩ ih2
 simp only at hk hJ hR2 hRl2 hcnt2 hmu ih2 ⊢
 have hml2 := hJ.len
 refine Run.unf B0w (Run.go 100 ?_)
 have hz : ((k + 1 : Nat) : Int) = (k : Int) + 1 := by omega
 by_cases c : (k : Int) < nl.length
 rotate_left
 ·simp -implicitDefEqProofs only [go_sem, c, hnll]
  exact ih _ (td2, R2, ms2, st2, m2) ⟨hJ.over (by rw [hnle]; omega), hR2, hRl2, hcnt2⟩ hmu (by simp -implicitDefEqProofs only [go_sem])
 obtain ⟨x, hx⟩ : ∃ x, nl[k]? = some x := ⟨nl[k]'(by omega), by simp⟩
 have hxr := hnls k x hx
 have hxin := hnin x (List.mem_of_getElem? hx)
 obtain ⟨j, rfl⟩ : ∃ j : Nat, x = j := ⟨x.toNat, by omega⟩
 have k0 : ((0 : Int) ≤ (k : Int)) = True := eq_true (by omega)
 have k1 : ((k : Int) < (nl.length : Int)) = True := eq_true c
 have k2 : (k < nl.length) = True := eq_true (by omega)
 have j0 : ((0 : Int) ≤ (j : Int)) = True := eq_true (by omega)
 have j1 : ((j : Int) < (code.length : Int)) = True := eq_true (by omega)
 have j2 : (j < code.length) = True := eq_true (by omega)
 obtain ⟨bv, hbv⟩ : ∃ b, ms2[j]? = some b := ⟨ms2[j]'(by omega), by simp⟩
 have hbr := C2D hbv
 have hmm : (ms2.map brw).length = code.length := by simp [hml2]
 have hset := C5c ms2 j true
 generalize hBe : ms2.map brw = B at *
 cases bv with
 | true =>
  have hJ' := hJ.skip (by rw [hnle]; exact hx) hbv
  simp -implicitDefEqProofs only [go_sem, hnll, hnlz, hxr, k0, k1, k2, j0, j1, j2, hbr, hmm, Option.some.injEq, forall_eq']
  refine ⟨by omega, ?_⟩
  refine ih2 _ (k + 1, td2, R2, ms2, st2, m2) ⟨by simp only; omega, hJ', hR2, hRl2, hcnt2, hmu⟩ (by simp only; omega) ?_
  simp only [hz]
  simp -implicitDefEqProofs only [go_sem, hBe]
 | false =>
  have hJ' := hJ.mark (by rw [hnle]; exact hx) hbv
  have hct := B2r hbv
  have hbl := hmm
  simp -implicitDefEqProofs only [go_sem, hnll, hnlz, hxr, k0, k1, k2, j0, j1, j2, hbr, hbl, List.length_set, hset, Option.some.injEq, forall_eq', List.drop_one, List.tail_cons]
  refine ⟨by omega, by omega, by omega, ?_⟩
  refine ih2 _ (k + 1, td2 ++ [(j : Int)], R2.take td2.length ++ [[.int .i64 j]], ms2.set j true, m2, m2 + 1) ⟨by simp only; omega, hJ', ?_, ?_, ?_, ?_⟩ (by simp only; omega) ?_
  ·simp only [List.length_append, List.length_cons, List.length_nil]
   rw [List.take_of_length_le (by simp; omega), hR2]; simp [zrw]
  ·simp; omega
  ·simp; omega
  ·simp; omega
  ·simp only [hz, List.length_append, List.length_cons, List.length_nil]
   simp -implicitDefEqProofs only [go_sem]
end Go.Proofs.YtoanghfeednogaaGreatDoor
