/-
 The registers that are used and defined. No condition.
-/
import Derived.Test.YtfkfphpnijkdlaaGreatDoorRwM
import Derived.Test.YtfkfphpnijkdlaaGreatDoorPro
import Derived.Test.YtfkfphpnijkdlaaGreatDoorWk
set_option linter.unusedVariables false
set_option linter.unusedSimpArgs false
set_option maxRecDepth 100000
set_option maxHeartbeats 0
namespace Go.Proofs.YtfkfphpnijkdlaaGreatDoor
open Go.Abs
attribute [local irreducible] CallS Run
-- EV: Ins.v, Ins.row
-- EV: Ins.v, Ins.row
def regN (z : Int) : Nat := (min (max z 0) 4096).toNat
theorem regN_le (z : Int) : regN z ≤ 4096 := by unfold regN; omega
theorem size_pure (z : Int) (c0 c1 c2 c3 c5 c6 c7 c8 c9 c10 : V) : Pure Tryz.prog 40 [.agg [c0, c1, c2, c3, .int .i64 z, c5, c6, c7, c8, c9, c10]] (.int .i64 (regN z)) := by
 refine Pure.of 0 (CallS.enter flow_size_ok (Nat.le_of_ble_eq_true rfl) ?_)
 refine Run.go 100 ?_
 simp -implicitDefEqProofs only [go_sem, Ins.v, Ins.row, initSl]
 unfold regN
 (repeat' split) <;> omega
def rowF (f : Nat → Bool) : List V := (List.range 4096).map fun x => .bool (f x)
theorem rowF_len (f : Nat → Bool) : (rowF f).length = 4096 := by simp [rowF]
theorem rowF_none : rowF (fun _ => false) = List.replicate 4096 (.bool false) := by
 unfold rowF; rw [List.map_const']; simp
theorem rowF_at {f : Nat → Bool} {x : Nat} (h : x < 4096) : (rowF f)[x]? = some (.bool (f x)) := by simp [rowF, h]
theorem rowF_put {f : Nat → Bool} {x : Nat} (h : x < 4096) : putCells (rowF f) x [.bool true] = rowF (fun y => f y || decide (y = x)) := by
 have hl := rowF_len f
 have e : putCells (rowF f) x [.bool true] = (rowF f).set x (.bool true) := by
  rw [List.set_eq_take_append_cons_drop, if_pos (by omega)]
  simp [putCells]
 rw [e]
 refine List.ext_getElem? fun i => ?_
 rw [List.getElem?_set]
 by_cases hi : i < 4096
 ·rw [rowF_at hi, rowF_at hi]
  by_cases c : x = i
  ·subst c; simp [hl, h]
  ·rw [if_neg c]; simp [show ¬ i = x from fun e => c e.symm]
 ·rw [if_neg (by omega), List.getElem?_eq_none (by rw [rowF_len]; omega), List.getElem?_eq_none (by rw [rowF_len]; omega)]
def putB (N : Nat) (l : List Int) (from_ : Int) (f : Nat → Bool) : Nat → Bool := fun r => f r || (decide (r < N) && (decide ((r : Int) ∈ l) || decide (0 ≤ from_ ∧ from_ ≤ r)))
def putT (N : Nat) (l : List Int) (k : Nat) (f : Nat → Bool) : Nat → Bool := fun r => f r || (decide (r < N) && decide ((r : Int) ∈ l.take k))
def putU (N : Nat) (l : List Int) (a x : Int) (f : Nat → Bool) : Nat → Bool := fun r => f r || (decide (r < N) && (decide ((r : Int) ∈ l) || decide (a ≤ r ∧ (r : Int) < x)))
theorem putT_zero (N : Nat) (l : List Int) (f : Nat → Bool) : putT N l 0 f = f := by funext r; simp [putT]
theorem putT_yes {N : Nat} {l : List Int} {k : Nat} {f : Nat → Bool} {x : Nat} (h : l[k]? = some (x : Int)) (hx : x < N) : (fun y => putT N l k f y || decide (y = x)) = putT N l (k + 1) f := by
 funext r
 unfold putT
 rw [List.take_add_one, h]
 by_cases c : r = x
 ·subst c; simp [hx]
 ·have : ¬ (r : Int) = (x : Int) := by omega
  simp [c, this]
theorem putT_no {N : Nat} {l : List Int} {k : Nat} {f : Nat → Bool} {x : Int} (h : l[k]? = some x) (hx : ¬ (0 ≤ x ∧ x < N)) : putT N l (k + 1) f = putT N l k f := by
 funext r
 unfold putT
 rw [List.take_add_one, h]
 by_cases c : r < N
 ·have : ¬ (r : Int) = x := by omega
  simp [this]
 ·simp [c]
theorem putU_start {N : Nat} {l : List Int} {a : Int} {f : Nat → Bool} : putU N l a a f = putT N l l.length f := by
 funext r
 unfold putU putT
 rw [List.take_length]
 have : ¬ (a ≤ (r : Int) ∧ (r : Int) < a) := by omega
 simp only [this, decide_false, Bool.or_false]
theorem putU_step {N : Nat} {l : List Int} {a : Int} {f : Nat → Bool} {x : Nat} (ha : a ≤ x) (hx : x < N) : (fun y => putU N l a x f y || decide (y = x)) = putU N l a ((x : Int) + 1) f := by
 funext r
 unfold putU
 by_cases c : r = x
 ·subst c; simp [hx, ha]; omega
 ·have : ((r : Int) < (x : Int) + 1) = ((r : Int) < x) := by rw [eq_iff_iff]; omega
  simp only [this, c, decide_false, Bool.or_false]
theorem putU_end {N : Nat} {l : List Int} {a x : Int} {f : Nat → Bool} (ha : 0 ≤ a) (hx : (N : Int) ≤ x) : putU N l a x f = putB N l a f := by
 funext r
 unfold putU putB
 by_cases c : r < N
 ·have e : (a ≤ (r : Int) ∧ (r : Int) < x) = (0 ≤ a ∧ a ≤ (r : Int)) := by rw [eq_iff_iff]; omega
  simp only [e]
 ·simp [c]
theorem putB_no {N : Nat} {l : List Int} {a : Int} {f : Nat → Bool} (ha : a < 0) : putB N l a f = putT N l l.length f := by
 funext r
 unfold putB putT
 rw [List.take_length]
 have : ¬ (0 ≤ a ∧ a ≤ (r : Int)) := by omega
 simp only [this, decide_false, Bool.or_false]
theorem put_c (z : Int) (l : List Int) (from_ : Int) (hl : l.length ≤ 100000) (hf : -1 ≤ from_) (f : Nat → Bool) (b st n : Nat) (hb : b ≠ (68 * 10000 + 5)) (c0 c1 c2 c3 c5 c6 c7 c8 c9 c10 : V) (hc0 : [c0, c1, c2, c3, c5, c6, c7, c8, c9, c10].map (V.sub lost) = [c0, c1, c2, c3, c5, c6, c7, c8, c9, c10]) :
  CallS Tryz.prog 68 [.ptr b st 0 0, .agg [c0, c1, c2, c3, .int .i64 z, c5, c6, c7, c8, c9, c10], .isl (l.map zrw), .int .i64 from_] [(b, st, .rows 4096 [rowF f])] n
   (fun r h' n' => r = .tup [] ∧ h' = [(b, st, .rows 4096 [rowF (putB (regN z) l from_ f)])]) := by
 refine CallS.enterK flow_registers_put_ok (Nat.le_of_ble_eq_true rfl) fun Q hQ => Run.go 100 ?_
 simp only [List.map_cons, List.map_nil, List.cons.injEq, and_true] at hc0
 have hlen : (l.map zrw).length = l.length := List.length_map ..
 have hrow : ∀ (k : Nat) (x : Int), l[k]? = some x → (l.map zrw)[k]? = some [.int .i64 x] := fun k x h => (by rw [List.getElem?_map, h]; rfl)
 have hsz := rowszZ' l
 have hN := regN_le z
 have hsp := size_pure z
 generalize regN z = N at *
 generalize l.map zrw = es at *
 have hb' := eq_false hb
 simp only [Nat.reduceMul, Nat.reduceAdd] at hb'
 simp -implicitDefEqProofs only [go_sem, Ins.v, Ins.row, initSl, hb']
 refine CallS.pureF (hsp c0 c1 c2 c3 c5 c6 c7 c8 c9 c10) (by simp -implicitDefEqProofs only [go_sem, Ins.v, Ins.row, hc0]) ?_
 simp -implicitDefEqProofs only [go_sem, Ins.v, Ins.row]
 refine Run.rounds (fun (x : Nat) => ⟨[(16, .int .i64 x), (15, .int .i64 l.length), (14, .isl es), (8, .int .i64 N), (3, .int .i64 from_), (0, .ptr b st 0 0)], [(b, st, .rows 4096 [rowF (putT N l x f)])], n + 1⟩)
  (fun x => x ≤ l.length) (fun x => l.length - x) 0 (by simp -implicitDefEqProofs only [go_sem, Ins.v, Ins.row, putT_zero, hlen]) (by omega) ?_
 intro k hk ih
 have hz : ((k + 1 : Nat) : Int) = (k : Int) + 1 := by omega
 refine Run.unf flow_registers_put_l0_eq (Run.go 100 ?_)
 by_cases c : (k : Int) < l.length
 ·obtain ⟨x, hx⟩ : ∃ x, l[k]? = some x := ⟨l[k]'(by omega), by simp⟩
  have hr := hrow k x hx
  have k0 : ((0 : Int) ≤ (k : Int)) = True := eq_true (by omega)
  have k1 : ((k : Int) < (l.length : Int)) = True := eq_true c
  have k2 : (k < l.length) = True := eq_true (by omega)
  by_cases d : 0 ≤ x ∧ x < N
  ·obtain ⟨y, rfl⟩ : ∃ y : Nat, x = y := ⟨x.toNat, by omega⟩
   have d0 := eq_true d.1
   have d1 := eq_true d.2
   have d2 : ((y : Int) < 4096) = True := eq_true (by omega)
   have hp : (rowF (putT N l k f)).take y ++ [.bool true] ++ (rowF (putT N l k f)).drop (y + 1) = rowF (putT N l (k + 1) f) := by
    have := rowF_put (f := putT N l k f) (x := y) (by omega)
    rwa [putT_yes hx (by omega)] at this
   have d3 : y + 1 ≤ (rowF (putT N l k f)).length := by rw [rowF_len]; omega
   generalize rowF (putT N l k f) = R at *
   simp -implicitDefEqProofs only [go_sem, Ins.v, Ins.row, hlen, hr, hsz, k0, k1, k2, d0, d1, d2, hp, Option.some.injEq, forall_eq', Nat.beq_refl, Nat.mul_one]
   refine ⟨d3, by omega, ?_⟩
   refine ih _ (k + 1) (by omega) (by omega) ?_
   simp only [hz]
   simp -implicitDefEqProofs only [go_sem, Ins.v, Ins.row]
  ·have e := putT_no (f := f) hx d
   by_cases d0 : 0 ≤ x
   ·have e0 := eq_true d0
    have e1 := eq_false (fun h => d ⟨d0, h⟩)
    simp -implicitDefEqProofs only [go_sem, Ins.v, Ins.row, hlen, hr, hsz, k0, k1, k2, e0, e1, Option.some.injEq, forall_eq']
    refine ⟨by omega, ?_⟩
    refine ih _ (k + 1) (by omega) (by omega) ?_
    simp only [hz, e]
    simp -implicitDefEqProofs only [go_sem, Ins.v, Ins.row]
   ·have e0 := eq_false d0
    simp -implicitDefEqProofs only [go_sem, Ins.v, Ins.row, hlen, hr, hsz, k0, k1, k2, e0, Option.some.injEq, forall_eq']
    refine ⟨by omega, ?_⟩
    refine ih _ (k + 1) (by omega) (by omega) ?_
    simp only [hz, e]
    simp -implicitDefEqProofs only [go_sem, Ins.v, Ins.row]
 ·have e : k = l.length := by omega
  subst e
  clear ih
  by_cases hneg : from_ < 0
  ·have e1 : (0 ≤ from_) = False := eq_false (by omega)
   simp -implicitDefEqProofs only [go_sem, Ins.v, Ins.row, c, e1, hlen]
   rw [← putB_no hneg]
   subst hQ
   exact .is ⟨rfl, rfl⟩
  ·have e1 : (0 ≤ from_) = True := eq_true (by omega)
   simp -implicitDefEqProofs only [go_sem, Ins.v, Ins.row, c, e1, hlen]
   refine Run.rounds (fun (x : Nat) => ⟨[(11, .int .i64 (from_ + x)), (8, .int .i64 N), (0, .ptr b st 0 0)], [(b, st, .rows 4096 [rowF (putU N l from_ (from_ + x) f)])], n + 1⟩)
    (fun x => x ≤ N) (fun x => N - x) 0 (by simp -implicitDefEqProofs only [go_sem, Ins.v, Ins.row, putU_start, Int.add_zero]) (by omega) ?_
   intro k hk ih
   refine Run.unf flow_registers_put_l1_eq (Run.go 100 ?_)
   by_cases c : from_ + k < N
   ·obtain ⟨y, hy⟩ : ∃ y : Nat, from_ + k = y := ⟨(from_ + k).toNat, by omega⟩
    have hz : from_ + ((k + 1 : Nat) : Int) = (y : Int) + 1 := by omega
    rw [hy] at c ⊢
    have d0 : ((0 : Int) ≤ (y : Int)) = True := eq_true (by omega)
    have d1 := eq_true c
    have d2 : ((y : Int) < 4096) = True := eq_true (by omega)
    have hp : (rowF (putU N l from_ y f)).take y ++ [.bool true] ++ (rowF (putU N l from_ y f)).drop (y + 1) = rowF (putU N l from_ ((y : Int) + 1) f) := by
     have := rowF_put (f := putU N l from_ y f) (x := y) (by omega)
     rwa [putU_step (by omega) (by omega)] at this
    have d3 : y + 1 ≤ (rowF (putU N l from_ y f)).length := by rw [rowF_len]; omega
    generalize rowF (putU N l from_ y f) = R at *
    simp -implicitDefEqProofs only [go_sem, Ins.v, Ins.row, d0, d1, d2, hp, Option.some.injEq, forall_eq', Nat.beq_refl, Nat.mul_one]
    refine ⟨d3, by omega, ?_⟩
    refine ih _ (k + 1) (by omega) (by omega) ?_
    simp only [hz]
    simp -implicitDefEqProofs only [go_sem, Ins.v, Ins.row]
   ·simp -implicitDefEqProofs only [go_sem, Ins.v, Ins.row, c]
    rw [putU_end (by omega) (by omega)]
    subst hQ
    exact .is ⟨rfl, rfl⟩
-- EV: Ins.v, Ins.row
def upsF (N : Nat) (us : List (List UInt8 × Bool × Int)) (f : Nat → Bool) : Nat → Bool := us.foldl (fun f u => if u.2.1 then putB N [u.2.2] (-1) f else f) f
theorem upsF_succ {N : Nat} {us : List (List UInt8 × Bool × Int)} {k : Nat} {u : List UInt8 × Bool × Int} {f : Nat → Bool} (h : us[k]? = some u) : upsF N (us.take (k + 1)) f = if u.2.1 then putB N [u.2.2] (-1) (upsF N (us.take k) f) else upsF N (us.take k) f := by
 unfold upsF
 rw [List.take_add_one, h, Option.toList_some, List.foldl_append]; rfl
def usesB (p : Pro) (i : Ins) : Nat → Bool :=
 let f := putB (regN p.regs) (reads i).1 (reads i).2 fun _ => false
 if i.op = 22 ∧ 0 ≤ i.b ∧ i.b < p.protos.length then upsF (regN p.regs) ((p.protos[i.b.toNat]?).elim [] (·.ups)) f else f
theorem rowF_bool (f : Nat → Bool) : ∀ c ∈ rowF f, ∃ b, c = .bool b := fun c hc => by
 unfold rowF at hc
 obtain ⟨x, _, rfl⟩ := List.mem_map.1 hc
 exact ⟨_, rfl⟩
theorem uses_pure (p : Pro) (i : Ins) (hsub : p.row.map (V.sub lost) = p.row) (hup : ∀ q ∈ p.protos, q.ups.length ≤ 100000) : Pure Tryz.prog 41 [.agg p.row, i.v] (.iptr [rowF (usesB p i)] 0 0) := by
 refine Pure.ofPtr (rowF_bool _) (CallS.enterK flow_uses_ok (Nat.le_of_ble_eq_true rfl) fun Q hQ => ?_)
 have hput := fun l a b c f bb st n h1 => put_c p.regs l a b c f bb st n h1
 have hrd := reads_in i
 have hpr := p.row_eq
 generalize hN : regN p.regs = N at *
 have hu : usesB p i = if i.op = 22 ∧ 0 ≤ i.b ∧ i.b < p.protos.length then upsF N ((p.protos[i.b.toNat]?).elim [] (·.ups)) (putB N (reads i).1 (reads i).2 fun _ => false) else putB N (reads i).1 (reads i).2 fun _ => false := by rw [← hN]; rfl
 generalize usesB p i = U at *
 have hlenP : (p.protos.map Pro.row).length = p.protos.length := List.length_map ..
 have hrowP : ∀ (k : Nat) (x : Pro), p.protos[k]? = some x → (p.protos.map Pro.row)[k]? = some x.row := fun k x h => by rw [List.getElem?_map, h]; rfl
 have hszP : rowsz (p.protos.map Pro.row) 11 = True := eq_true fun r hr => by obtain ⟨y, _, rfl⟩ := List.mem_map.1 hr; rw [Pro.row_eq]; rfl
 have hcr : (reads i).1.length ≤ 100000 := by
  have := asc_len (asc_reads i) (fun x hx => (hrd.1 x hx).1) (fun x hx => (hrd.1 x hx).2)
  omega
 rw [hpr] at hsub ⊢
 generalize p.protos.map Pro.row = PR at *
 generalize p.code.map Ins.row = c5 at *
 generalize p.lines.map zline = c6 at *
 generalize p.ups.map upRow = c9 at *
 simp only [List.map_cons, List.map_nil, List.cons.injEq, and_true, true_and, V.sub, subLL_map, V.isl.injEq] at hsub
 refine Run.go 100 ?_
 simp -implicitDefEqProofs only [go_sem, Ins.v, Ins.row, initSl]
 refine CallS.pureF (reads_pure i) (by simp -implicitDefEqProofs only [go_sem, Ins.v, Ins.row]) ?_
 simp -implicitDefEqProofs only [go_sem, Ins.v, Ins.row, ← rowF_none]
 refine CallS.at [0] [1, 2] (hput _ _ hcr hrd.2.1 _ _ _ _ (by decide) _ _ _ _ _ _ _ _ _ _ (by simp -implicitDefEqProofs only [go_sem, Ins.v, Ins.row, hsub])) rfl rfl ?_
 rintro r h' n' hn ⟨rfl, rfl⟩
 simp -implicitDefEqProofs only [go_sem, Ins.v, Ins.row]
 by_cases hcl : i.op = 22 ∧ 0 ≤ i.b ∧ i.b < p.protos.length
 rotate_left
 ·rw [if_neg hcl] at hu
  by_cases h1 : i.op = 22
  ·by_cases h2 : 0 ≤ i.b
   ·have h3 := eq_false (fun h => hcl ⟨h1, h2, h⟩)
    have h2 := eq_true h2
    simp -implicitDefEqProofs only [go_sem, Ins.v, Ins.row, h1, h2, h3, hlenP]
    subst hQ; subst hu
    exact .is ⟨_, _, _, rfl, rfl⟩
   ·have h2 := eq_false h2
    simp -implicitDefEqProofs only [go_sem, Ins.v, Ins.row, h1, h2]
    subst hQ; subst hu
    exact .is ⟨_, _, _, rfl, rfl⟩
  ·simp -implicitDefEqProofs only [go_sem, Ins.v, Ins.row, h1]
   subst hQ; subst hu
   exact .is ⟨_, _, _, rfl, rfl⟩
 ·rw [if_pos hcl] at hu
  obtain ⟨q, hq⟩ : ∃ q, p.protos[i.b.toNat]? = some q := ⟨p.protos[i.b.toNat]'(by omega), by simp⟩
  have hqr := hrowP _ _ hq
  have hupq := hup q (List.mem_of_getElem? hq)
  rw [q.row_eq] at hqr
  rw [hq] at hu
  simp only [Option.elim_some] at hu
  have h1 := hcl.1
  have h2 := eq_true hcl.2.1
  have h3 := eq_true hcl.2.2
  have h4 : (i.b.toNat < p.protos.length) = True := eq_true (by omega)
  have hlU : (q.ups.map upRow).length = q.ups.length := List.length_map ..
  have hrU : ∀ (k : Nat) (x : List UInt8 × Bool × Int), q.ups[k]? = some x → (q.ups.map upRow)[k]? = some [.str x.1, .bool x.2.1, .int .i64 x.2.2] := fun k x h => by rw [List.getElem?_map, h]; rfl
  have hzU : rowsz (q.ups.map upRow) 3 = True := eq_true fun r hr => by obtain ⟨y, _, rfl⟩ := List.mem_map.1 hr; rfl
  generalize q.ups.map upRow = UR at *
  generalize hf0 : putB N (reads i).1 (reads i).2 (fun _ => false) = f0 at *
  simp -implicitDefEqProofs only [go_sem, Ins.v, Ins.row, h1, h2, h3, h4, hlenP, hszP, hqr, Option.some.injEq, forall_eq']
  refine Run.roundsK (fun (x : Nat × Nat) => ⟨[(46, .int .i64 x.1), (45, .int .i64 q.ups.length), (44, .isl UR), (5, .ptr (41 * 10000 + 11) 2 0 0), (3, .ptr (41 * 10000 + 3) 1 0 0), (2, .ptr (41 * 10000 + 2) 0 0 0)], [((41 * 10000 + 11), 2, .rows 4096 [rowF (upsF N (q.ups.take x.1) f0)]), ((41 * 10000 + 3), 1, .rows 5 [[.int .i64 22, .int .i64 i.a, .int .i64 i.b, .int .i64 i.c, .int .i64 i.d]]), ((41 * 10000 + 2), 0, .rows 11 [[.str p.name, .int .i64 p.line, .int .i64 p.params, .bool p.vararg, .int .i64 p.regs, .isl c5, .isl c6, .isl p.consts, .isl PR, .isl c9, .isl p.vars]])], x.2⟩)
   (fun x => x.1 ≤ q.ups.length) (fun x => q.ups.length - x.1) (0, n') (Weak.wk (by simp -implicitDefEqProofs only [go_sem, Ins.v, Ins.row, hlU, List.take_zero, upsF, List.foldl_nil])) (by simp only; omega) ?_
  rintro ⟨k, m⟩ hk ih
  simp only at hk ih ⊢
  have hz : ((k + 1 : Nat) : Int) = (k : Int) + 1 := by omega
  refine Run.unf flow_uses_l0_eq (Run.go 100 ?_)
  by_cases c : (k : Int) < q.ups.length
  ·obtain ⟨u, hx⟩ : ∃ u, q.ups[k]? = some u := ⟨q.ups[k]'(by omega), by simp⟩
   have hr := hrU k u hx
   have k0 : ((0 : Int) ≤ (k : Int)) = True := eq_true (by omega)
   have k1 : ((k : Int) < (q.ups.length : Int)) = True := eq_true c
   have k2 : (k < q.ups.length) = True := eq_true (by omega)
   have e := upsF_succ (N := N) (f := f0) hx
   generalize upsF N (q.ups.take k) f0 = F at *
   cases hl : u.2.1 with
   | false =>
    rw [hl] at e
    simp only [Bool.false_eq_true, if_false] at e
    simp -implicitDefEqProofs only [go_sem, Ins.v, Ins.row, hlU, hr, hzU, k0, k1, k2, hl, Option.some.injEq, forall_eq']
    refine ⟨by omega, ?_⟩
    refine ih _ (k + 1, m + 1) (by simp only; omega) (by simp only; omega) (Weak.wk ?_)
    simp only [hz, e]
    simp -implicitDefEqProofs only [go_sem, Ins.v, Ins.row]
   | true =>
    rw [hl] at e
    simp only [if_true] at e
    simp -implicitDefEqProofs only [go_sem, Ins.v, Ins.row, hlU, hr, hzU, k0, k1, k2, hl, Option.some.injEq, forall_eq']
    refine CallS.at [1] [2, 3] (hput [u.2.2] (-1) (by simp) (by omega) _ _ _ _ (by decide) _ _ _ _ _ _ _ _ _ _ (by simp -implicitDefEqProofs only [go_sem, Ins.v, Ins.row, hsub])) rfl rfl ?_
    rintro r h' n2 hn ⟨rfl, rfl⟩
    simp -implicitDefEqProofs only [go_sem, Ins.v, Ins.row]
    refine ⟨by omega, ?_⟩
    refine ih _ (k + 1, n2) (by simp only; omega) (by simp only; omega) (Weak.wk ?_)
    simp only [hz, e]
    simp -implicitDefEqProofs only [go_sem, Ins.v, Ins.row]
  ·have e : k = q.ups.length := by omega
   subst e
   rw [List.take_length] 
   simp -implicitDefEqProofs only [go_sem, Ins.v, Ins.row, c, hlU]
   rw [← hu]
   subst hQ
   exact .is ⟨_, _, _, rfl, rfl⟩
def defsB (p : Pro) (at_ : Nat) (to_ : Int) : Nat → Bool :=
 match p.code[at_]? with
 | some i => if (i.op = 24 ∨ i.op = 26) ∧ ¬ (to_ = i.b ∧ to_ ≠ at_ + 1) ∨ i.op = 23 ∧ to_ = i.b then fun _ => false else putB (regN p.regs) (writes i).1 (writes i).2 fun _ => false
 | none => fun _ => false
theorem defs_pure (p : Pro) (at_ : Nat) (to_ : Int) (hat : at_ < p.code.length) (hc : p.code.length ≤ 100000) (hsub : p.row.map (V.sub lost) = p.row) : Pure Tryz.prog 42 [.agg p.row, .int .i64 at_, .int .i64 to_] (.iptr [rowF (defsB p at_ to_)] 0 0) := by
 refine Pure.ofPtr (rowF_bool _) (CallS.enterK flow_defines_ok (Nat.le_of_ble_eq_true rfl) fun Q hQ => ?_)
 have hput := fun l a b c f bb st n h1 => put_c p.regs l a b c f bb st n h1
 have hpr := p.row_eq
 obtain ⟨i, hi⟩ : ∃ i, p.code[at_]? = some i := ⟨p.code[at_]'hat, by simp [hat]⟩
 have hrd := writes_in i
 generalize hN : regN p.regs = N at *
 have hu : defsB p at_ to_ = if (i.op = 24 ∨ i.op = 26) ∧ ¬ (to_ = i.b ∧ to_ ≠ at_ + 1) ∨ i.op = 23 ∧ to_ = i.b then fun _ => false else putB N (writes i).1 (writes i).2 fun _ => false := by unfold defsB; rw [hi, ← hN]
 generalize defsB p at_ to_ = U at *
 have hlen : (p.code.map Ins.row).length = p.code.length := List.length_map ..
 have hr : (p.code.map Ins.row)[at_]? = some i.row := by rw [List.getElem?_map, hi]; rfl
 have hsz : rowsz (p.code.map Ins.row) 5 = True := eq_true fun r hr => by obtain ⟨y, _, rfl⟩ := List.mem_map.1 hr; rfl
 have hcr : (writes i).1.length ≤ 100000 := by
  have := asc_len (asc_writes i) (fun x hx => (hrd.1 x hx).1) (fun x hx => (hrd.1 x hx).2)
  omega
 rw [hpr] at hsub ⊢
 generalize p.protos.map Pro.row = c8 at *
 generalize p.code.map Ins.row = es at *
 generalize p.lines.map zline = c6 at *
 generalize p.ups.map upRow = c9 at *
 simp only [List.map_cons, List.map_nil, List.cons.injEq, and_true, true_and, V.sub, subLL_map, V.isl.injEq] at hsub
 have k0 : ((0 : Int) ≤ (at_ : Int)) = True := eq_true (by omega)
 have k1 : ((at_ : Int) < (p.code.length : Int)) = True := eq_true (by omega)
 have k2 : (at_ < p.code.length) = True := eq_true hat
 refine Run.go 100 ?_
 simp -implicitDefEqProofs only [go_sem, Ins.v, Ins.row, initSl, hlen, hr, hsz, k0, k1, k2, Option.some.injEq, forall_eq']
 have hwp := writes_pure i
 repeat' (first | refine And.intro ?_ ?_ | refine fun h => ?_)
 all_goals (try simp only [Bool.not_eq_eq_eq_not, Bool.not_true, Bool.not_false, decide_eq_false_iff_not, decide_eq_true_eq, Decidable.not_not] at *)
 all_goals first
  | omega
  | (rw [if_pos (by omega)] at hu
     subst hQ; subst hu
     exact .is ⟨_, _, _, rfl, by rw [rowF_none]; rfl⟩)
  | (rw [if_neg (by omega)] at hu
     refine CallS.pureF hwp (by simp -implicitDefEqProofs only [go_sem, Ins.v, Ins.row]) ?_
     simp -implicitDefEqProofs only [go_sem, Ins.v, Ins.row, ← rowF_none]
     refine CallS.at [1] [0, 2] (hput _ _ hcr hrd.2.1 _ _ _ _ (by decide) _ _ _ _ _ _ _ _ _ _ (by simp -implicitDefEqProofs only [go_sem, Ins.v, Ins.row, hsub])) rfl rfl ?_
     rintro r h' n' hn ⟨rfl, rfl⟩
     simp -implicitDefEqProofs only [go_sem, Ins.v, Ins.row]
     subst hQ; subst hu
     exact .is ⟨_, _, _, rfl, rfl⟩)
end Go.Proofs.YtfkfphpnijkdlaaGreatDoor
