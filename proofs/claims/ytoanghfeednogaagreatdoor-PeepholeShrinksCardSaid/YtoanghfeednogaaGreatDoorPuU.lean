/-
 The registers that are used and defined. No condition.
-/
import Derived.Test.YtoanghfeednogaaGreatDoorRwM
import Derived.Test.YtoanghfeednogaaGreatDoorPro
import Derived.Test.YtoanghfeednogaaGreatDoorWk
set_option linter.unusedVariables false
set_option linter.unusedSimpArgs false
set_option maxRecDepth 100000
set_option maxHeartbeats 0
namespace Go.Proofs.YtoanghfeednogaaGreatDoor
open Go.Abs
attribute [local irreducible] A2 Run
-- EV: Ins.v, Ins.row
attribute [local go_sem] Ins.v Ins.row
-- EV: Ins.v, Ins.row
def A8s (z : Int) : Nat := (min (max z 0) 4096).toNat
theorem C0d (z : Int) : A8s z ≤ 4096 := by unfold A8s; omega
theorem B4G (z : Int) (c0 c1 c2 c3 c5 c6 c7 c8 c9 c10 : V) : Pure Tryz.prog 39 [.agg [c0, c1, c2, c3, .int .i64 z, c5, c6, c7, c8, c9, c10]] (.int .i64 (A8s z)) := by
 refine Pure.of 0 (A2.enter A9k (Nat.le_of_ble_eq_true rfl) ?_)
 refine Run.go 100 ?_
 simp -implicitDefEqProofs only [go_sem, A5]
 unfold A8s
 (repeat' split) <;> omega
def L5 (f : Nat → Bool) : List V := (List.range 4096).map fun x => .bool (f x)
theorem A6y (f : Nat → Bool) : (L5 f).length = 4096 := by simp [L5]
theorem B0L : L5 (fun _ => false) = List.replicate 4096 (.bool false) := by
 unfold L5; rw [List.map_const']; simp
theorem B1X {f : Nat → Bool} {x : Nat} (h : x < 4096) : (L5 f)[x]? = some (.bool (f x)) := by simp [L5, h]
theorem B7r {f : Nat → Bool} {x : Nat} (h : x < 4096) : F1 (L5 f) x [.bool true] = L5 (fun y => f y || decide (y = x)) := by
 have hl := A6y f
 have e : F1 (L5 f) x [.bool true] = (L5 f).set x (.bool true) := by
  rw [List.set_eq_take_append_cons_drop, if_pos (by omega)]
  simp [F1]
 rw [e]
 refine List.ext_getElem? fun i => ?_
 rw [List.getElem?_set]
 by_cases hi : i < 4096
 ·rw [B1X hi, B1X hi]
  by_cases c : x = i
  ·subst c; simp [hl, h]
  ·rw [if_neg c]; simp [show ¬ i = x from fun e => c e.symm]
 ·rw [if_neg (by omega), List.getElem?_eq_none (by rw [A6y]; omega), List.getElem?_eq_none (by rw [A6y]; omega)]
def B0I (N : Nat) (l : List Int) (from_ : Int) (f : Nat → Bool) : Nat → Bool := fun r => f r || (decide (r < N) && (decide ((r : Int) ∈ l) || decide (0 ≤ from_ ∧ from_ ≤ r)))
def A4i (N : Nat) (l : List Int) (k : Nat) (f : Nat → Bool) : Nat → Bool := fun r => f r || (decide (r < N) && decide ((r : Int) ∈ l.take k))
def A9P (N : Nat) (l : List Int) (a x : Int) (f : Nat → Bool) : Nat → Bool := fun r => f r || (decide (r < N) && (decide ((r : Int) ∈ l) || decide (a ≤ r ∧ (r : Int) < x)))
theorem C1D (N : Nat) (l : List Int) (f : Nat → Bool) : A4i N l 0 f = f := by funext r; simp [A4i]
theorem C3W {N : Nat} {l : List Int} {k : Nat} {f : Nat → Bool} {x : Nat} (h : l[k]? = some (x : Int)) (hx : x < N) : (fun y => A4i N l k f y || decide (y = x)) = A4i N l (k + 1) f := by
 funext r
 unfold A4i
 rw [List.take_add_one, h]
 by_cases c : r = x
 ·subst c; simp [hx]
 ·have : ¬ (r : Int) = (x : Int) := by omega
  simp [c, this]
theorem C5L {N : Nat} {l : List Int} {k : Nat} {f : Nat → Bool} {x : Int} (h : l[k]? = some x) (hx : ¬ (0 ≤ x ∧ x < N)) : A4i N l (k + 1) f = A4i N l k f := by
 funext r
 unfold A4i
 rw [List.take_add_one, h]
 by_cases c : r < N
 ·have : ¬ (r : Int) = x := by omega
  simp [this]
 ·simp [c]
theorem B8P {N : Nat} {l : List Int} {a : Int} {f : Nat → Bool} : A9P N l a a f = A4i N l l.length f := by
 funext r
 unfold A9P A4i
 rw [List.take_length]
 have : ¬ (a ≤ (r : Int) ∧ (r : Int) < a) := by omega
 simp only [this, decide_false, Bool.or_false]
theorem C1E {N : Nat} {l : List Int} {a : Int} {f : Nat → Bool} {x : Nat} (ha : a ≤ x) (hx : x < N) : (fun y => A9P N l a x f y || decide (y = x)) = A9P N l a ((x : Int) + 1) f := by
 funext r
 unfold A9P
 by_cases c : r = x
 ·subst c; simp [hx, ha]; omega
 ·have : ((r : Int) < (x : Int) + 1) = ((r : Int) < x) := by rw [eq_iff_iff]; omega
  simp only [this, c, decide_false, Bool.or_false]
theorem C3X {N : Nat} {l : List Int} {a x : Int} {f : Nat → Bool} (ha : 0 ≤ a) (hx : (N : Int) ≤ x) : A9P N l a x f = B0I N l a f := by
 funext r
 unfold A9P B0I
 by_cases c : r < N
 ·have e : (a ≤ (r : Int) ∧ (r : Int) < x) = (0 ≤ a ∧ a ≤ (r : Int)) := by rw [eq_iff_iff]; omega
  simp only [e]
 ·simp [c]
theorem C5K {N : Nat} {l : List Int} {a : Int} {f : Nat → Bool} (ha : a < 0) : B0I N l a f = A4i N l l.length f := by
 funext r
 unfold B0I A4i
 rw [List.take_length]
 have : ¬ (0 ≤ a ∧ a ≤ (r : Int)) := by omega
 simp only [this, decide_false, Bool.or_false]
theorem C7a (z : Int) (l : List Int) (from_ : Int) (hl : l.length ≤ 100000) (hf : -1 ≤ from_) (f : Nat → Bool) (b st n : Nat) (hb : b ≠ (57 * 10000 + 5)) (c0 c1 c2 c3 c5 c6 c7 c8 c9 c10 : V) (hc0 : [c0, c1, c2, c3, c5, c6, c7, c8, c9, c10].map (V.sub C0) = [c0, c1, c2, c3, c5, c6, c7, c8, c9, c10]) :
  A2 Tryz.prog 57 [.ptr b st 0 0, .agg [c0, c1, c2, c3, .int .i64 z, c5, c6, c7, c8, c9, c10], .isl (l.map zrw), .int .i64 from_] [(b, st, .rows 4096 [L5 f])] n
   (fun r h' n' => r = .tup [] ∧ h' = [(b, st, .rows 4096 [L5 (B0I (A8s z) l from_ f)])]) := by
 refine A2.enterK j9 (Nat.le_of_ble_eq_true rfl) fun Q hQ => Run.go 100 ?_
 simp only [List.map_cons, List.map_nil, List.cons.injEq, and_true] at hc0
 have hlen : (l.map zrw).length = l.length := List.length_map ..
 have hrow : ∀ (k : Nat) (x : Int), l[k]? = some x → (l.map zrw)[k]? = some [.int .i64 x] := fun k x h => (by rw [List.getElem?_map, h]; rfl)
 have hsz := O7 l
 have hN := C0d z
 have hsp := B4G z
 generalize A8s z = N at *
 generalize l.map zrw = es at *
 have hb' := eq_false hb
 simp only [Nat.reduceMul, Nat.reduceAdd] at hb'
 simp -implicitDefEqProofs only [go_sem, A5, hb']
 refine A2.pureF (hsp c0 c1 c2 c3 c5 c6 c7 c8 c9 c10) (by simp -implicitDefEqProofs only [go_sem, hc0]) ?_
 simp -implicitDefEqProofs only [go_sem]
 refine Run.rounds (fun (x : Nat) => ⟨[(16, .int .i64 x), (15, .int .i64 l.length), (14, .isl es), (8, .int .i64 N), (3, .int .i64 from_), (0, .ptr b st 0 0)], [(b, st, .rows 4096 [L5 (A4i N l x f)])], n + 1⟩)
  (fun x => x ≤ l.length) (fun x => l.length - x) 0 (by simp -implicitDefEqProofs only [go_sem, C1D, hlen]) (by omega) ?_
 intro k hk ih
 have hz : ((k + 1 : Nat) : Int) = (k : Int) + 1 := by omega
 refine Run.unf A2x (Run.go 100 ?_)
 by_cases c : (k : Int) < l.length
 ·obtain ⟨x, hx⟩ : ∃ x, l[k]? = some x := ⟨l[k]'(by omega), by simp⟩
  have hr := hrow k x hx
  have k0 : ((0 : Int) ≤ (k : Int)) = True := eq_true (by omega)
  have k1 : ((k : Int) < (l.length : Int)) = True := eq_true c
  have k2 : (k < l.length) = True := eq_true (by omega)
  by_cases d : 0 ≤ x ∧ x < N
  ·obtain ⟨y, rfl⟩ : ∃ y : Nat, x = y := ⟨x.toNat, by omega⟩
   have d0 := eq_true d.1
   have d1 := eq_true d.2
   have d2 : ((y : Int) < 4096) = True := eq_true (by omega)
   have hp : (L5 (A4i N l k f)).take y ++ [.bool true] ++ (L5 (A4i N l k f)).drop (y + 1) = L5 (A4i N l (k + 1) f) := by
    have := B7r (f := A4i N l k f) (x := y) (by omega)
    rwa [C3W hx (by omega)] at this
   have d3 : y + 1 ≤ (L5 (A4i N l k f)).length := by rw [A6y]; omega
   generalize L5 (A4i N l k f) = R at *
   simp -implicitDefEqProofs only [go_sem, hlen, hr, hsz, k0, k1, k2, d0, d1, d2, hp, Option.some.injEq, forall_eq', Nat.beq_refl, Nat.mul_one]
   refine ⟨d3, by omega, ?_⟩
   refine ih _ (k + 1) (by omega) (by omega) ?_
   simp only [hz]
   simp -implicitDefEqProofs only [go_sem]
  ·have e := C5L (f := f) hx d
   by_cases d0 : 0 ≤ x
   ·have e0 := eq_true d0
    have e1 := eq_false (fun h => d ⟨d0, h⟩)
    simp -implicitDefEqProofs only [go_sem, hlen, hr, hsz, k0, k1, k2, e0, e1, Option.some.injEq, forall_eq']
    refine ⟨by omega, ?_⟩
    refine ih _ (k + 1) (by omega) (by omega) ?_
    simp only [hz, e]
    simp -implicitDefEqProofs only [go_sem]
   ·have e0 := eq_false d0
    simp -implicitDefEqProofs only [go_sem, hlen, hr, hsz, k0, k1, k2, e0, Option.some.injEq, forall_eq']
    refine ⟨by omega, ?_⟩
    refine ih _ (k + 1) (by omega) (by omega) ?_
    simp only [hz, e]
    simp -implicitDefEqProofs only [go_sem]
 ·have e : k = l.length := by omega
  subst e
  clear ih
  by_cases hneg : from_ < 0
  ·have e1 : (0 ≤ from_) = False := eq_false (by omega)
   simp -implicitDefEqProofs only [go_sem, c, e1, hlen]
   rw [← C5K hneg]
   subst hQ
   exact .is ⟨rfl, rfl⟩
  ·have e1 : (0 ≤ from_) = True := eq_true (by omega)
   simp -implicitDefEqProofs only [go_sem, c, e1, hlen]
   refine Run.rounds (fun (x : Nat) => ⟨[(11, .int .i64 (from_ + x)), (8, .int .i64 N), (0, .ptr b st 0 0)], [(b, st, .rows 4096 [L5 (A9P N l from_ (from_ + x) f)])], n + 1⟩)
    (fun x => x ≤ N) (fun x => N - x) 0 (by simp -implicitDefEqProofs only [go_sem, B8P, Int.add_zero]) (by omega) ?_
   intro k hk ih
   refine Run.unf A2y (Run.go 100 ?_)
   by_cases c : from_ + k < N
   ·obtain ⟨y, hy⟩ : ∃ y : Nat, from_ + k = y := ⟨(from_ + k).toNat, by omega⟩
    have hz : from_ + ((k + 1 : Nat) : Int) = (y : Int) + 1 := by omega
    rw [hy] at c ⊢
    have d0 : ((0 : Int) ≤ (y : Int)) = True := eq_true (by omega)
    have d1 := eq_true c
    have d2 : ((y : Int) < 4096) = True := eq_true (by omega)
    have hp : (L5 (A9P N l from_ y f)).take y ++ [.bool true] ++ (L5 (A9P N l from_ y f)).drop (y + 1) = L5 (A9P N l from_ ((y : Int) + 1) f) := by
     have := B7r (f := A9P N l from_ y f) (x := y) (by omega)
     rwa [C1E (by omega) (by omega)] at this
    have d3 : y + 1 ≤ (L5 (A9P N l from_ y f)).length := by rw [A6y]; omega
    generalize L5 (A9P N l from_ y f) = R at *
    simp -implicitDefEqProofs only [go_sem, d0, d1, d2, hp, Option.some.injEq, forall_eq', Nat.beq_refl, Nat.mul_one]
    refine ⟨d3, by omega, ?_⟩
    refine ih _ (k + 1) (by omega) (by omega) ?_
    simp only [hz]
    simp -implicitDefEqProofs only [go_sem]
   ·simp -implicitDefEqProofs only [go_sem, c]
    rw [C3X (by omega) (by omega)]
    subst hQ
    exact .is ⟨rfl, rfl⟩
-- EV: Ins.v, Ins.row
def B5R (N : Nat) (us : List (List UInt8 × Bool × Int)) (f : Nat → Bool) : Nat → Bool := us.foldl (fun f u => if u.2.1 then B0I N [u.2.2] (-1) f else f) f
theorem C2o {N : Nat} {us : List (List UInt8 × Bool × Int)} {k : Nat} {u : List UInt8 × Bool × Int} {f : Nat → Bool} (h : us[k]? = some u) : B5R N (us.take (k + 1)) f = if u.2.1 then B0I N [u.2.2] (-1) (B5R N (us.take k) f) else B5R N (us.take k) f := by
 unfold B5R
 rw [List.take_add_one, h, Option.toList_some, List.foldl_append]; rfl
def B4O (p : Pro) (i : Ins) : Nat → Bool :=
 let f := B0I (A8s p.regs) (reads i).1 (reads i).2 fun _ => false
 if i.op = 22 ∧ 0 ≤ i.b ∧ i.b < p.protos.length then B5R (A8s p.regs) ((p.protos[i.b.toNat]?).elim [] (·.ups)) f else f
theorem B4C (f : Nat → Bool) : ∀ c ∈ L5 f, ∃ b, c = .bool b := fun c hc => by
 unfold L5 at hc
 obtain ⟨x, _, rfl⟩ := List.mem_map.1 hc
 exact ⟨_, rfl⟩
theorem C2p (p : Pro) (i : Ins) (hsub : p.row.map (V.sub C0) = p.row) (hup : ∀ q ∈ p.protos, q.ups.length ≤ 4398046510976) : Pure Tryz.prog 40 [.agg p.row, i.v] (.iptr [L5 (B4O p i)] 0 0) := by
 refine Pure.ofPtr (B4C _) (A2.enterK A9m (Nat.le_of_ble_eq_true rfl) fun Q hQ => ?_)
 have hput := fun l a b c f bb st n h1 => C7a p.regs l a b c f bb st n h1
 have hrd := A3x i
 have hpr := p.row_eq
 generalize hN : A8s p.regs = N at *
 have hu : B4O p i = if i.op = 22 ∧ 0 ≤ i.b ∧ i.b < p.protos.length then B5R N ((p.protos[i.b.toNat]?).elim [] (·.ups)) (B0I N (reads i).1 (reads i).2 fun _ => false) else B0I N (reads i).1 (reads i).2 fun _ => false := by rw [← hN]; rfl
 generalize B4O p i = U at *
 have hlenP : (p.protos.map Pro.row).length = p.protos.length := List.length_map ..
 have hrowP : ∀ (k : Nat) (x : Pro), p.protos[k]? = some x → (p.protos.map Pro.row)[k]? = some x.row := fun k x h => by rw [List.getElem?_map, h]; rfl
 have hszP : B6 (p.protos.map Pro.row) 11 = True := eq_true fun r hr => by obtain ⟨y, _, rfl⟩ := List.mem_map.1 hr; rw [Pro.row_eq]; rfl
 have hcr : (reads i).1.length ≤ 100000 := by
  have := A6K (B0l i) (fun x hx => (hrd.1 x hx).1) (fun x hx => (hrd.1 x hx).2)
  omega
 rw [hpr] at hsub ⊢
 generalize p.protos.map Pro.row = PR at *
 generalize p.code.map Ins.row = c5 at *
 generalize p.lines.map C0m = c6 at *
 generalize p.ups.map B0g = c9 at *
 simp only [List.map_cons, List.map_nil, List.cons.injEq, and_true, true_and, V.sub, N6, V.isl.injEq] at hsub
 refine Run.go 100 ?_
 simp -implicitDefEqProofs only [go_sem, A5]
 refine A2.pureF (A8r i) (by simp -implicitDefEqProofs only [go_sem]) ?_
 simp -implicitDefEqProofs only [go_sem, ← B0L]
 refine A2.at [0] [1, 2] (hput _ _ hcr hrd.2.1 _ _ _ _ (by decide) _ _ _ _ _ _ _ _ _ _ (by simp -implicitDefEqProofs only [go_sem, hsub])) rfl rfl ?_
 rintro r h' n' hn ⟨rfl, rfl⟩
 simp -implicitDefEqProofs only [go_sem]
 by_cases hcl : i.op = 22 ∧ 0 ≤ i.b ∧ i.b < p.protos.length
 rotate_left
 ·rw [if_neg hcl] at hu
  by_cases h1 : i.op = 22
  ·by_cases h2 : 0 ≤ i.b
   ·have h3 := eq_false (fun h => hcl ⟨h1, h2, h⟩)
    have h2 := eq_true h2
    simp -implicitDefEqProofs only [go_sem, h1, h2, h3, hlenP]
    subst hQ; subst hu
    exact .is ⟨_, _, _, rfl, rfl⟩
   ·have h2 := eq_false h2
    simp -implicitDefEqProofs only [go_sem, h1, h2]
    subst hQ; subst hu
    exact .is ⟨_, _, _, rfl, rfl⟩
  ·simp -implicitDefEqProofs only [go_sem, h1]
   subst hQ; subst hu
   exact .is ⟨_, _, _, rfl, rfl⟩
 ·rw [if_pos hcl] at hu
  obtain ⟨q, hq⟩ : ∃ q, p.protos[i.b.toNat]? = some q := ⟨p.protos[i.b.toNat]'(by omega), by simp⟩
  have hqr := hrowP _ _ hq
  have hupq := hup q (List.mem_of_getElem? hq)
  rw [q.row_eq] at hqr
  rw [hq] at hu
  simp only [Option.elim_some] at hu
  have h1 := hcl.1
  have h2 := eq_true hcl.2.1
  have h3 := eq_true hcl.2.2
  have h4 : (i.b.toNat < p.protos.length) = True := eq_true (by omega)
  have hlU : (q.ups.map B0g).length = q.ups.length := List.length_map ..
  have hrU : ∀ (k : Nat) (x : List UInt8 × Bool × Int), q.ups[k]? = some x → (q.ups.map B0g)[k]? = some [.str x.1, .bool x.2.1, .int .i64 x.2.2] := fun k x h => by rw [List.getElem?_map, h]; rfl
  have hzU : B6 (q.ups.map B0g) 3 = True := eq_true fun r hr => by obtain ⟨y, _, rfl⟩ := List.mem_map.1 hr; rfl
  generalize q.ups.map B0g = UR at *
  generalize hf0 : B0I N (reads i).1 (reads i).2 (fun _ => false) = f0 at *
  simp -implicitDefEqProofs only [go_sem, h1, h2, h3, h4, hlenP, hszP, hqr, Option.some.injEq, forall_eq']
  refine Run.roundsK (fun (x : Nat × Nat) => ⟨[(46, .int .i64 x.1), (45, .int .i64 q.ups.length), (44, .isl UR), (5, .ptr (40 * 10000 + 11) 2 0 0), (3, .ptr (40 * 10000 + 3) 1 0 0), (2, .ptr (40 * 10000 + 2) 0 0 0)], [((40 * 10000 + 11), 2, .rows 4096 [L5 (B5R N (q.ups.take x.1) f0)]), ((40 * 10000 + 3), 1, .rows 5 [[.int .i64 22, .int .i64 i.a, .int .i64 i.b, .int .i64 i.c, .int .i64 i.d]]), ((40 * 10000 + 2), 0, .rows 11 [[.str p.name, .int .i64 p.line, .int .i64 p.params, .bool p.vararg, .int .i64 p.regs, .isl c5, .isl c6, .isl p.consts, .isl PR, .isl c9, .isl p.vars]])], x.2⟩)
   (fun x => x.1 ≤ q.ups.length) (fun x => q.ups.length - x.1) (0, n') (B7.wk (by simp -implicitDefEqProofs only [go_sem, hlU, List.take_zero, B5R, List.foldl_nil])) (by simp only; omega) ?_
  rintro ⟨k, m⟩ hk ih
  simp only at hk ih ⊢
  have hz : ((k + 1 : Nat) : Int) = (k : Int) + 1 := by omega
  refine Run.unf B1G (Run.go 100 ?_)
  by_cases c : (k : Int) < q.ups.length
  ·obtain ⟨u, hx⟩ : ∃ u, q.ups[k]? = some u := ⟨q.ups[k]'(by omega), by simp⟩
   have hr := hrU k u hx
   have k0 : ((0 : Int) ≤ (k : Int)) = True := eq_true (by omega)
   have k1 : ((k : Int) < (q.ups.length : Int)) = True := eq_true c
   have k2 : (k < q.ups.length) = True := eq_true (by omega)
   have e := C2o (N := N) (f := f0) hx
   generalize B5R N (q.ups.take k) f0 = F at *
   cases hl : u.2.1 with
   | false =>
    rw [hl] at e
    simp only [Bool.false_eq_true, if_false] at e
    simp -implicitDefEqProofs only [go_sem, hlU, hr, hzU, k0, k1, k2, hl, Option.some.injEq, forall_eq']
    refine ⟨by omega, ?_⟩
    refine ih _ (k + 1, m + 1) (by simp only; omega) (by simp only; omega) (B7.wk ?_)
    simp only [hz, e]
    simp -implicitDefEqProofs only [go_sem]
   | true =>
    rw [hl] at e
    simp only [if_true] at e
    simp -implicitDefEqProofs only [go_sem, hlU, hr, hzU, k0, k1, k2, hl, Option.some.injEq, forall_eq']
    refine A2.at [1] [2, 3] (hput [u.2.2] (-1) (by simp) (by omega) _ _ _ _ (by decide) _ _ _ _ _ _ _ _ _ _ (by simp -implicitDefEqProofs only [go_sem, hsub])) rfl rfl ?_
    rintro r h' n2 hn ⟨rfl, rfl⟩
    simp -implicitDefEqProofs only [go_sem]
    refine ⟨by omega, ?_⟩
    refine ih _ (k + 1, n2) (by simp only; omega) (by simp only; omega) (B7.wk ?_)
    simp only [hz, e]
    simp -implicitDefEqProofs only [go_sem]
  ·have e : k = q.ups.length := by omega
   subst e
   rw [List.take_length] 
   simp -implicitDefEqProofs only [go_sem, c, hlU]
   rw [← hu]
   subst hQ
   exact .is ⟨_, _, _, rfl, rfl⟩
def B6s (p : Pro) (at_ : Nat) (to_ : Int) : Nat → Bool :=
 match p.code[at_]? with
 | some i => if (i.op = 24 ∨ i.op = 26) ∧ ¬ (to_ = i.b ∧ to_ ≠ at_ + 1) ∨ i.op = 23 ∧ to_ = i.b then fun _ => false else B0I (A8s p.regs) (C4 i).1 (C4 i).2 fun _ => false
 | none => fun _ => false
theorem C0H (p : Pro) (at_ : Nat) (to_ : Int) (hat : at_ < p.code.length) (hc : p.code.length ≤ 100000) (hsub : p.row.map (V.sub C0) = p.row) : Pure Tryz.prog 41 [.agg p.row, .int .i64 at_, .int .i64 to_] (.iptr [L5 (B6s p at_ to_)] 0 0) := by
 refine Pure.ofPtr (B4C _) (A2.enterK A4v (Nat.le_of_ble_eq_true rfl) fun Q hQ => ?_)
 have hput := fun l a b c f bb st n h1 => C7a p.regs l a b c f bb st n h1
 have hpr := p.row_eq
 obtain ⟨i, hi⟩ : ∃ i, p.code[at_]? = some i := ⟨p.code[at_]'hat, by simp [hat]⟩
 have hrd := A3U i
 generalize hN : A8s p.regs = N at *
 have hu : B6s p at_ to_ = if (i.op = 24 ∨ i.op = 26) ∧ ¬ (to_ = i.b ∧ to_ ≠ at_ + 1) ∨ i.op = 23 ∧ to_ = i.b then fun _ => false else B0I N (C4 i).1 (C4 i).2 fun _ => false := by unfold B6s; rw [hi, ← hN]
 generalize B6s p at_ to_ = U at *
 have hlen : (p.code.map Ins.row).length = p.code.length := List.length_map ..
 have hr : (p.code.map Ins.row)[at_]? = some i.row := by rw [List.getElem?_map, hi]; rfl
 have hsz : B6 (p.code.map Ins.row) 5 = True := eq_true fun r hr => by obtain ⟨y, _, rfl⟩ := List.mem_map.1 hr; rfl
 have hcr : (C4 i).1.length ≤ 100000 := by
  have := A6K (B2i i) (fun x hx => (hrd.1 x hx).1) (fun x hx => (hrd.1 x hx).2)
  omega
 rw [hpr] at hsub ⊢
 generalize p.protos.map Pro.row = c8 at *
 generalize p.code.map Ins.row = es at *
 generalize p.lines.map C0m = c6 at *
 generalize p.ups.map B0g = c9 at *
 simp only [List.map_cons, List.map_nil, List.cons.injEq, and_true, true_and, V.sub, N6, V.isl.injEq] at hsub
 have k0 : ((0 : Int) ≤ (at_ : Int)) = True := eq_true (by omega)
 have k1 : ((at_ : Int) < (p.code.length : Int)) = True := eq_true (by omega)
 have k2 : (at_ < p.code.length) = True := eq_true hat
 refine Run.go 100 ?_
 simp -implicitDefEqProofs only [go_sem, A5, hlen, hr, hsz, k0, k1, k2, Option.some.injEq, forall_eq']
 have hwp := A6J i
 repeat' (first | refine And.intro ?_ ?_ | refine fun h => ?_)
 all_goals (try simp only [Bool.not_eq_eq_eq_not, Bool.not_true, Bool.not_false, decide_eq_false_iff_not, decide_eq_true_eq, Decidable.not_not] at *)
 all_goals first
  | omega
  | (rw [if_pos (by omega)] at hu
     subst hQ; subst hu
     exact .is ⟨_, _, _, rfl, by rw [B0L]; rfl⟩)
  | (rw [if_neg (by omega)] at hu
     refine A2.pureF hwp (by simp -implicitDefEqProofs only [go_sem]) ?_
     simp -implicitDefEqProofs only [go_sem, ← B0L]
     refine A2.at [1] [0, 2] (hput _ _ hcr hrd.2.1 _ _ _ _ (by decide) _ _ _ _ _ _ _ _ _ _ (by simp -implicitDefEqProofs only [go_sem, hsub])) rfl rfl ?_
     rintro r h' n' hn ⟨rfl, rfl⟩
     simp -implicitDefEqProofs only [go_sem]
     subst hQ; subst hu
     exact .is ⟨_, _, _, rfl, rfl⟩)
end Go.Proofs.YtoanghfeednogaaGreatDoor
