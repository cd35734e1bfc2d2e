/-
 Live registers: the least solution, and how it is reached from below. No program, no condition.
-/
import Derived.Test.YtoanghfeednogaaGreatDoorOps
import Derived.Test.YtoanghfeednogaaGreatDoorPuU
import Derived.Test.YtoanghfeednogaaGreatDoorFlowN
import Derived.Test.YtoanghfeednogaaGreatDoorRchM
import Derived.Test.YtoanghfeednogaaGreatDoorUtl
set_option linter.unusedVariables false
set_option linter.unusedSimpArgs false
set_option maxRecDepth 100000
set_option maxHeartbeats 0
namespace Go.Proofs.YtoanghfeednogaaGreatDoor
open Go.Abs
attribute [local irreducible] A2 Run
inductive LiveR (U : Nat → Nat → Bool) (Nx : Nat → List Int) (D : Nat → Int → Nat → Bool) : Nat → Nat → Prop
 | use {a r : Nat} : U a r = true → LiveR U Nx D a r
 | flow {a r to_ : Nat} : (to_ : Int) ∈ Nx a → D a to_ r = false → LiveR U Nx D to_ r → LiveR U Nx D a r
noncomputable def C3C (U : Nat → Nat → Bool) (Nx : Nat → List Int) (D : Nat → Int → Nat → Bool) (a r : Nat) : Bool := @decide (LiveR U Nx D a r) (Classical.propDecidable _)
theorem C1s {U : Nat → Nat → Bool} {Nx : Nat → List Int} {D : Nat → Int → Nat → Bool} {a r : Nat} : C3C U Nx D a r = true ↔ LiveR U Nx D a r := by
 unfold C3C; exact @decide_eq_true_iff _ (Classical.propDecidable _)
section
variable {U : Nat → Nat → Bool} {Nx : Nat → List Int} {D : Nat → Int → Nat → Bool}
def A7S (U : Nat → Nat → Bool) (Nx : Nat → List Int) (D : Nat → Int → Nat → Bool) (M : Nat → Nat → Bool) : Prop := ∀ a r, M a r = true → LiveR U Nx D a r
def A1H (U : Nat → Nat → Bool) (Nx : Nat → List Int) (D : Nat → Int → Nat → Bool) (M : Nat → Nat → Bool) (a r : Nat) : Prop :=
 (U a r = true → M a r = true) ∧ ∀ to_ : Nat, (to_ : Int) ∈ Nx a → D a to_ r = false → M to_ r = true → M a r = true
theorem B6f {M : Nat → Nat → Bool} {n N : Nat} (hin : ∀ a, ∀ x ∈ Nx a, 0 ≤ x ∧ x < (n : Int)) (hc : ∀ a r, a < n → r < N → A1H U Nx D M a r) {a r : Nat} (h : LiveR U Nx D a r) (ha : a < n) (hr : r < N) : M a r = true := by
 induction h with
 | use hu => exact (hc _ _ ha hr).1 hu
 | flow ht hd _ ih =>
  have := hin _ _ ht
  exact (hc _ _ ha hr).2 _ ht hd (ih (by omega) hr)
def A7y (M : Nat → Nat → Bool) (a r : Nat) : Nat → Nat → Bool := fun x y => M x y || (decide (x = a) && decide (y = r))
theorem B9i {M : Nat → Nat → Bool} {a r : Nat} (h : A7S U Nx D M) (hl : LiveR U Nx D a r) : A7S U Nx D (A7y M a r) := by
 intro x y hm
 simp only [A7y, Bool.or_eq_true, Bool.and_eq_true, decide_eq_true_eq] at hm
 rcases hm with hm | ⟨rfl, rfl⟩
 ·exact h _ _ hm
 ·exact hl
def C3U (n N : Nat) : List (Nat × Nat) := (List.range n).flatMap fun a => (List.range N).map fun r => (a, r)
theorem C1v {n N : Nat} {c : Nat × Nat} : c ∈ C3U n N ↔ c.1 < n ∧ c.2 < N := by
 simp only [C3U, List.mem_flatMap, List.mem_range, List.mem_map]
 constructor
 ·rintro ⟨a, ha, r, hr, rfl⟩; exact ⟨ha, hr⟩
 ·rintro ⟨h1, h2⟩; exact ⟨c.1, h1, c.2, h2, rfl⟩
def unM (n N : Nat) (M : Nat → Nat → Bool) : Nat := (C3U n N).countP fun c => !M c.1 c.2
theorem B4b {α : Type} {p q : α → Bool} : ∀ {l : List α}, (∀ c ∈ l, q c = true → p c = true) → ∀ {c : α}, c ∈ l → p c = true → q c = false → l.countP q < l.countP p
 | [], _, c, h, _, _ => by cases h
 | x :: l, hs, c, h, hp, hq => by
  have hle : l.countP q ≤ l.countP p := List.countP_mono_left fun y hy => hs y (List.mem_cons_of_mem _ hy)
  rcases List.mem_cons.1 h with rfl | h
  ·rw [List.countP_cons, List.countP_cons, hp, hq]; simp; omega
  ·have ih := B4b (fun y hy => hs y (List.mem_cons_of_mem _ hy)) h hp hq
   rw [List.countP_cons, List.countP_cons]
   have := hs x List.mem_cons_self
   cases h1 : q x
   ·simp; omega
   ·rw [this h1]; simp; omega
theorem C4K {n N : Nat} {M : Nat → Nat → Bool} {a r : Nat} (ha : a < n) (hr : r < N) (hm : M a r = false) : unM n N (A7y M a r) < unM n N M := by
 refine B4b (c := (a, r)) (fun c _ h => ?_) (C1v.2 ⟨ha, hr⟩) (by simp [hm]) (by simp [A7y])
 simp only [A7y, Bool.not_or, Bool.and_eq_true] at h
 exact h.1
def A5v (D : Nat → Int → Nat → Bool) (M : Nat → Nat → Bool) (nl : List Int) (a r k : Nat) : Bool := (nl.take k).any fun x => !D a x r && M x.toNat r
theorem C0r {M : Nat → Nat → Bool} {nl : List Int} {a r : Nat} : A5v D M nl a r 0 = false := by simp [A5v]
theorem C0q {M : Nat → Nat → Bool} {nl : List Int} {a r k : Nat} {x : Int} (h : nl[k]? = some x) : A5v D M nl a r (k + 1) = (A5v D M nl a r k || (!D a x r && M x.toNat r)) := by
 unfold A5v
 rw [List.take_add_one, h, Option.toList_some, List.any_append]; simp
theorem C3D {M : Nat → Nat → Bool} {a r : Nat} (hs : A7S U Nx D M) (hin : ∀ x ∈ Nx a, 0 ≤ x) (h : (U a r || A5v D M (Nx a) a r (Nx a).length) = true) : LiveR U Nx D a r := by
 rw [Bool.or_eq_true] at h
 rcases h with h | h
 ·exact .use h
 ·unfold A5v at h
  rw [List.take_length] at h
  obtain ⟨x, hx, hm⟩ := List.any_eq_true.1 h
  simp only [Bool.and_eq_true, Bool.not_eq_true'] at hm
  have := hin x hx
  have e : ((x.toNat : Nat) : Int) = x := by omega
  exact .flow (to_ := x.toNat) (by rw [e]; exact hx) (by rw [e]; exact hm.1) (hs _ _ hm.2)
theorem B8c {M : Nat → Nat → Bool} {a r : Nat} (h : (U a r || A5v D M (Nx a) a r (Nx a).length) = true → M a r = true) : A1H U Nx D M a r := by
 refine ⟨fun hu => h (by rw [hu]; rfl), fun to_ ht hd hm => h ?_⟩
 rw [Bool.or_eq_true]
 right
 unfold A5v
 rw [List.take_length]
 exact List.any_eq_true.2 ⟨to_, ht, by simp [hd, hm]⟩
end
-- EV: Ins.v, Ins.row
attribute [local go_sem] Ins.v Ins.row
def i9 (f : Nat → V) (z : V) (n a : Nat) : List (List V) := (List.range n).map fun i => [if i < a then f i else z]
theorem Q2 (f : Nat → V) (z : V) (n a : Nat) : (i9 f z n a).length = n := by simp [i9]
theorem B4K (f : Nat → V) (z : V) (n : Nat) : i9 f z n 0 = List.replicate n [z] := by
 unfold i9
 simp only [Nat.not_lt_zero, if_false]
 rw [List.map_const']; simp
theorem B2b {f : Nat → V} {z : V} {n a i : Nat} (h : i < n) : (i9 f z n a)[i]? = some [if i < a then f i else z] := by simp [i9, h]
theorem B0e {f : Nat → V} {z : V} {n a : Nat} (h : a < n) : (i9 f z n a)[a]? = some [z] := by rw [B2b h, if_neg (Nat.lt_irrefl a)]
theorem B3s {f : Nat → V} {z : V} {n a i : Nat} (h : i < n) (ha : i < a) : (i9 f z n a)[i]? = some [f i] := by rw [B2b h, if_pos ha]
theorem B0f {f g : Nat → V} {z : V} {n a : Nat} (hg : ∀ i, i < a → g i = f i) : (i9 f z n a).set a [g a] = i9 g z n (a + 1) := by
 refine List.ext_getElem? fun i => ?_
 rw [List.getElem?_set]
 by_cases hi : i < n
 ·rw [B2b hi, B2b hi, Q2]
  by_cases c : a = i
  ·subst c; simp [hi]
  ·rw [if_neg c]
   by_cases d : i < a
   ·rw [if_pos d, if_pos (by omega), hg i d]
   ·rw [if_neg d, if_neg (by omega)]
 ·rw [List.getElem?_eq_none (by rw [Q2]; omega), List.getElem?_eq_none (by rw [Q2]; omega)]
  split
  ·rw [Q2, if_neg (by omega)]
  ·rfl
theorem A4q (f : Nat → V) (z : V) (n a : Nat) : B6 (i9 f z n a) 1 = True := eq_true fun r hr => by
 obtain ⟨i, _, rfl⟩ := List.mem_map.1 hr; rfl
def Q7 (N : Nat) (f : Nat → Bool) : List (List V) := (List.range N).map fun r => [.bool (f r)]
theorem A0A (N : Nat) (f : Nat → Bool) : (Q7 N f).length = N := by simp [Q7]
theorem A5F {N r : Nat} {f : Nat → Bool} (h : r < N) : (Q7 N f)[r]? = some [.bool (f r)] := by simp [Q7, h]
theorem B7W (N : Nat) : Q7 N (fun _ => false) = List.replicate N [.bool false] := by
 unfold Q7; rw [List.map_const']; simp
theorem C3j {M : Nat → Nat → Bool} {N a r : Nat} : (fun i => Q7 N (A7y M a r i)) = C4L (fun i => Q7 N (M i)) a ((Q7 N (M a)).set r [.bool true]) := by
 funext i
 unfold C4L
 by_cases c : i = a
 ·subst c
  rw [if_pos rfl]
  refine List.ext_getElem? fun j => ?_
  rw [List.getElem?_set, A0A]
  by_cases hj : j < N
  ·rw [A5F hj, A5F hj]
   by_cases d : r = j
   ·subst d; simp [hj, A7y]
   ·rw [if_neg d]; simp [A7y, Ne.symm d]
  ·rw [List.getElem?_eq_none (by rw [A0A]; omega), List.getElem?_eq_none (by rw [A0A]; omega)]
   split
   ·rw [if_neg (by omega)]
   ·rfl
 ·rw [if_neg c]
  congr 1
  funext y
  simp [A7y, c]
def A5w (q : Nat → Bool) (r : Nat) : Nat := ((List.range r).filter q).length
theorem C2M {q : Nat → Bool} {r : Nat} (h : q r = true) : A5w q (r + 1) = A5w q r + 1 := by simp [A5w, List.range_succ, List.filter_append, h]
theorem C5h {q : Nat → Bool} {r : Nat} (h : q r = false) : A5w q (r + 1) = A5w q r := by simp [A5w, List.range_succ, List.filter_append, h]
theorem B4h {q : Nat → Bool} {r : Nat} (h : q r = true) : ∀ {N : Nat}, r < N → ((List.range N).filter q)[A5w q r]? = some r
 | 0, hr => absurd hr (Nat.not_lt_zero r)
 | N + 1, hr => by
  rw [List.range_succ, List.filter_append]
  by_cases c : r < N
  ·have ih := B4h h c
   rw [List.getElem?_append_left (List.getElem?_eq_some_iff.1 ih).1]; exact ih
  ·obtain rfl : r = N := by omega
   have e : A5w q r = (List.filter q (List.range r)).length := rfl
   rw [e, List.getElem?_append_right (Nat.le_refl _)]
   simp [h]
def B3J (p : Pro) (a r : Nat) : Bool := match p.code[a]? with | some i => B4O p i r | none => false
def C2U (p : Pro) (a : Nat) (to_ : Int) (r : Nat) : Bool := B6s p a to_ r
noncomputable def B9X (p : Pro) (a r : Nat) : Bool := C3C (B3J p) (fun a => C2 p.code a) (C2U p) a r
noncomputable def lvL (p : Pro) (a : Nat) : List Int := ((List.range (A8s p.regs)).filter (B9X p a)).map fun r => ((r : Nat) : Int)
noncomputable def B9Y (p : Pro) : V := .isl ((List.range p.code.length).map fun a => [.isl ((lvL p a).map zrw)])
theorem C8V {α : Type} (f : α → List V) (sz : Nat) (h : ∀ x, (f x).length = sz) (l : List α) : B6 (l.map f) sz = True := eq_true fun r hr => by obtain ⟨y, _, rfl⟩ := List.mem_map.1 hr; exact h y
def A8d (S : Nat → Nat) (N : Nat) (i : Nat) : V := .sl (1000000000000 + i) (S i) 0 N
def B1P (p : Pro) (i : Nat) : V := .iptr [L5 (B3J p i)] 0 0
def B6r (p : Pro) (a : Nat) (l : List Int) : List (List V) := l.map fun x => [.iptr [L5 (C2U p a x)] 0 0]
def B1w (p : Pro) (i : Nat) : V := .isl (B6r p i (C2 p.code i))
def dcT (T : List (List V)) (a b st : Nat) : Nat → List (List V)
 | 0 => T
 | k + 1 => T.set a [.sl b st 0 (k + 1)]
def dcH (R : List (List V)) (b st : Nat) : Nat → A0
 | 0 => []
 | k + 1 => [(b, st, .rows 1 (R.take (k + 1)))]
theorem C2V (p : Pro) (a : Nat) (l : List Int) : (B6r p a l).length = l.length := by simp [B6r]
theorem C5k {p : Pro} {a k : Nat} {l : List Int} {x : Int} (h : l[k]? = some x) : (B6r p a l)[k]? = some [.iptr [L5 (C2U p a x)] 0 0] := by simp [B6r, h]
theorem B4L {R : List (List V)} {k : Nat} {x : List V} (h : R[k]? = some x) : R.take (k + 1) = R.take k ++ [x] := by rw [List.take_add_one, h]; rfl
theorem C1C (p : Pro) : p.row.length = 11 ∧ p.row.take 11 = p.row := by rw [p.row_eq]; exact ⟨rfl, rfl⟩
theorem C1t (p : Pro) (hc : p.code.length ≤ 10000) (hsub : p.row.map (V.sub C0) = p.row) (hup : ∀ q ∈ p.protos, q.ups.length ≤ 4398046510976) : Pure Tryz.prog 24 [.agg p.row] (B9Y p) := by
 obtain ⟨h1, h2⟩ := C1C p
 have hz : Pure Tryz.prog 39 [.agg p.row] (.int .i64 (A8s p.regs)) := by rw [p.row_eq]; exact B4G _ _ _ _ _ _ _ _ _ _ _
 have hnx : ∀ a : Int, Pure Tryz.prog 38 [.agg p.row, .int .i64 a] (.isl ((C2 p.code a).map zrw)) := fun a => by rw [p.row_eq]; exact X5 p.code a (by omega) _ _ _ _ _ _ _ _ _ _
 have hus : ∀ i : Ins, Pure Tryz.prog 40 [.agg p.row, .agg i.row] (.iptr [L5 (B4O p i)] 0 0) := fun i => C2p p i hsub hup
 have hdf : ∀ (a : Nat) (to_ : Int), a < p.code.length → Pure Tryz.prog 41 [.agg p.row, .int .i64 a, .int .i64 to_] (.iptr [L5 (C2U p a to_)] 0 0) := fun a to_ ha => C0H p a to_ ha (by omega) hsub
 have g5 : p.row[5]? = some (.isl (p.code.map Ins.row)) := by rw [p.row_eq]; rfl
 have k5 : (p.code.map Ins.row).length = p.code.length := List.length_map ..
 have z5 := C8V Ins.row 5 (fun _ => rfl) p.code
 have r5 : ∀ (k : Nat) x, p.code[k]? = some x → (p.code.map Ins.row)[k]? = some (Ins.row x) := fun k x hk => by rw [List.getElem?_map, hk]; rfl
 have hN := C0d p.regs
 generalize hNe : A8s p.regs = N at *
 generalize hpr : p.row = pr at *
 generalize p.code.map Ins.row = rcode at *
 refine Pure.of 1 (A2.enter A9h (Nat.le_of_ble_eq_true rfl) (Run.go 100 ?_))
 simp -implicitDefEqProofs only [go_sem, A5, h1, h2]
 refine A2.pureF hz (by simp -implicitDefEqProofs only [go_sem, hsub]) ?_
 simp -implicitDefEqProofs only [go_sem, h1, h2, g5, k5]
 refine ⟨by omega, by omega, by omega, by omega, by omega, by omega, ?_⟩
 refine Run.keep [40, 39, 38, 6, 5, 4, 3, 1] ?_
 generalize hnn : p.code.length = n at *
 refine Run.roundsK (fun (x : Nat × (Nat → Nat) × Nat) => ⟨[(40, .int .i64 x.1), (39, .int .i64 n), (38, .isl rcode), (6, .sl (24 * 10000 + 36) 3 0 n), (5, .sl (24 * 10000 + 32) 2 0 n), (4, .sl (24 * 10000 + 28) 1 0 n), (3, .int .i64 N), (1, .ptr (24 * 10000 + 1) 0 0 0)],
   ((24 * 10000 + 36), 3, .rows 1 (i9 (B1w p) .nils n x.1)) :: ((24 * 10000 + 32), 2, .rows 1 (i9 (B1P p) .nilp n x.1)) :: ((24 * 10000 + 28), 1, .rows 1 (i9 (A8d x.2.1 N) .nils n x.1)) :: ((24 * 10000 + 1), 0, .rows 11 [pr]) :: A1B (fun _ => Q7 N fun _ => false) x.2.1 x.1, x.2.2⟩)
  (fun x => x.1 ≤ n) (fun x => n - x.1) (0, fun _ => 0, 4) (B7.wk (by simp -implicitDefEqProofs only [go_sem, B4K, C0Z])) (Nat.zero_le _) ?_
 rintro ⟨a, S, m⟩ ha ih
 simp only at ha ih ⊢
 have hfd := fun (b : Nat) hb => B2B (F := fun _ => Q7 N fun _ => false) (S := S) (m := a) (b := b) hb
 refine Run.unf B1y (Run.go 100 ?_)
 by_cases hlt : a < n
 ·have q0 : ((a : Int) < (n : Int)) = True := eq_true (by omega)
  have q1 : ((0 : Int) ≤ (a : Int)) = True := eq_true (by omega)
  obtain ⟨i, hi⟩ : ∃ i, p.code[a]? = some i := ⟨p.code[a]'(by omega), by simp⟩
  have hir := r5 a i hi
  have t1 := B0e (f := A8d S N) (z := .nils) hlt
  have t2 := B0e (f := B1P p) (z := .nilp) hlt
  have t3 := B0e (f := B1w p) (z := .nils) hlt
  have l1 := Q2 (A8d S N) .nils n a
  have l2 := Q2 (B1P p) .nilp n a
  have l3 := Q2 (B1w p) .nils n a
  have s1 := A4q (A8d S N) .nils n a
  have s2 := A4q (B1P p) .nilp n a
  have s3 := A4q (B1w p) .nils n a
  generalize hT1 : i9 (A8d S N) .nils n a = T1 at *
  generalize hT2 : i9 (B1P p) .nilp n a = T2 at *
  generalize hT3 : i9 (B1w p) .nils n a = T3 at *
  generalize hfm : A1B (fun _ => Q7 N fun _ => false) S a = fm at *
  simp -implicitDefEqProofs only [go_sem, q0, q1, k5, z5, hir, Ins.row, t1, t2, t3, l1, l2, l3, hlt, h1, h2, hfd, Option.some.injEq, forall_eq']
  refine ⟨by omega, by omega, ?_⟩
  have husi := hus i
  simp only [Ins.row] at husi
  refine A2.pureF husi (by simp -implicitDefEqProofs only [go_sem, hsub]) ?_
  simp -implicitDefEqProofs only [go_sem, t2, l2, q0, q1, hlt, h1, h2, hfd, Option.some.injEq, forall_eq']
  refine A2.pureF (hnx a) (by simp -implicitDefEqProofs only [go_sem, hsub]) ?_
  have hnin := fun x (h : x ∈ C2 p.code a) => A2N h
  have hnl2 := p8 p.code a
  have hul : B4O p i = B3J p a := by unfold B3J; rw [hi]
  have hT3' := hT3
  generalize hnle : C2 p.code a = nl at *
  have hnls : ∀ (k : Nat) (x : Int), nl[k]? = some x → (nl.map zrw)[k]? = some [.int .i64 x] := fun k x h => A8M h
  have hnll : (nl.map zrw).length = nl.length := List.length_map ..
  have hnlz := O7 nl
  generalize nl.map zrw = nls at *
  simp -implicitDefEqProofs only [go_sem, hnll, hul]
  refine Run.keep [60, 59, 58, 40, 39, 38, 7, 6, 5, 4, 3, 1] ?_
  have hRl := C2V p a nl
  have hRa := fun k x (h : nl[k]? = some x) => C5k (p := p) (a := a) h
  generalize hRR : B6r p a nl = RR at *
  refine Run.roundsK (fun (y : Nat × Nat × Nat) => ⟨[(60, .int .i64 y.1), (59, .int .i64 nl.length), (58, .isl nls), (40, .int .i64 a), (39, .int .i64 n), (38, .isl rcode), (7, .int .i64 a), (6, .sl (24 * 10000 + 36) 3 0 n), (5, .sl (24 * 10000 + 32) 2 0 n), (4, .sl (24 * 10000 + 28) 1 0 n), (3, .int .i64 N), (1, .ptr (24 * 10000 + 1) 0 0 0)],
    dcH RR (24 * 10000 + 75) y.2.1 y.1 ++ ((24 * 10000 + 36), 3, .rows 1 (dcT T3 a (24 * 10000 + 75) y.2.1 y.1)) :: ((24 * 10000 + 32), 2, .rows 1 (T2.set a [.iptr [L5 (B3J p a)] 0 0])) :: ((24 * 10000 + 28), 1, .rows 1 (T1.set a [.sl (24 * 10000 + 48) (m + 1) 0 N])) :: ((24 * 10000 + 48), m + 1, .rows 1 (List.replicate N [.bool false])) :: ((24 * 10000 + 1), 0, .rows 11 [pr]) :: fm, y.2.2⟩)
   (fun y => y.1 ≤ nl.length) (fun y => nl.length - y.1) (0, 0, m + 1 + 1) ?_ (Nat.zero_le _) ?_
  ·refine B7.wk (B7.of (by simp -implicitDefEqProofs only [go_sem]) ?_ (by simp -implicitDefEqProofs only [go_sem]))
   intro e he
   simp only [dcH, dcT, List.nil_append, List.mem_cons] at he ⊢
   rcases he with h | h | h | h | h | h <;> simp [h]
  rintro ⟨k, st, m2⟩ hk ih2
  simp only at hk ih2 ⊢
  refine Run.unf B1z (Run.go 100 ?_)
  have hzk : ((k + 1 : Nat) : Int) = (k : Int) + 1 := by omega
  by_cases hlk : k < nl.length
  ·have w0 : ((k : Int) < (nl.length : Int)) = True := eq_true (by omega)
   have w1 : ((0 : Int) ≤ (k : Int)) = True := eq_true (by omega)
   obtain ⟨x, hx⟩ : ∃ x, nl[k]? = some x := ⟨nl[k], by simp [hlk]⟩
   have hxr := hnls k x hx
   have hdx := hdf a x (by omega)
   have hRx := B4L (hRa k x hx)
   have fin := fun s => ih2 s (k + 1, m2, m2 + 1) (by simp only; omega) (by simp only; omega)
   clear ih2
   have hset : ∀ (X : List V), (T3.set a X)[a]? = some X := fun X => by rw [List.getElem?_set]; simp [l3, hlt]
   cases k with
   | zero =>
    simp only [dcH, dcT, List.nil_append, hRx, List.take_zero, List.cons_append] at fin ⊢
    have w0' : ((0 : Int) < (nl.length : Int)) = True := eq_true (by omega)
    simp -implicitDefEqProofs only [go_sem, w0', hnll, hnlz, hxr, hlk, t3, l3, q0, q1, hlt, h1, h2, hfd, Option.some.injEq, forall_eq']
    refine ⟨?_, ?_, ?_⟩ <;>
    (refine A2.pureF hdx (by simp -implicitDefEqProofs only [go_sem, hsub]) ?_
     simp -implicitDefEqProofs only [go_sem, t3, l3, s3, q0, q1, hlt, h1, h2, hfd, Option.some.injEq, forall_eq']
     refine fin _ (B7.wk (B7.of (by simp -implicitDefEqProofs only [go_sem, hzk]) (fun e he => ?_) (by simp -implicitDefEqProofs only [go_sem])))
     simp only [List.mem_cons] at he ⊢
     rcases he with h | h | h | h | h | h | h <;> simp only [h, eq_self, true_or, or_true])
   | succ k =>
    simp only [dcH, dcT, hRx, List.cons_append, List.nil_append] at fin ⊢
    have hRk : (RR.take (k + 1)).length = k + 1 := by rw [List.length_take]; omega
    generalize RR.take (k + 1) = Rk at *
    simp -implicitDefEqProofs only [go_sem, w0, w1, hnll, hnlz, hxr, hlk, hset, l3, q0, q1, hlt, h1, h2, hfd, List.length_set, Option.some.injEq, forall_eq']
    refine ⟨?_, ?_, ?_⟩ <;>
    (refine A2.pureF hdx (by simp -implicitDefEqProofs only [go_sem, hsub]) ?_
     simp -implicitDefEqProofs only [go_sem, hset, l3, hRk, q0, q1, hlt, h1, h2, hfd, List.length_set, List.set_set, Option.some.injEq, forall_eq']
     refine ⟨by omega, by omega, fin _ (B7.wk (B7.of (by simp -implicitDefEqProofs only [go_sem, hzk]) (fun e he => ?_) (by simp -implicitDefEqProofs only [go_sem])))⟩
     rw [List.take_of_length_le (by omega)]
     simp only [List.mem_cons] at he ⊢
     rcases he with h | h | h | h | h | h | h <;> simp only [h, eq_self, true_or, or_true])
  ·have e : k = nl.length := by omega
   subst e
   clear ih2
   have hza : ((a + 1 : Nat) : Int) = (a : Int) + 1 := by omega
   have hlive : T1.set a [.sl (1000000000000 + a) (m + 1) 0 N] = i9 (A8d (fun i => if i = a then m + 1 else S i) N) .nils n (a + 1) := by
    rw [← hT1]
    have := B0f (f := A8d S N) (g := A8d (fun i => if i = a then m + 1 else S i) N) (z := .nils) (n := n) (a := a) (fun i hi => by simp only [A8d]; rw [if_neg (by omega)])
    rw [← this]; simp [A8d]
   have hused : T2.set a [.iptr [L5 (B3J p a)] 0 0] = i9 (B1P p) .nilp n (a + 1) := by
    rw [← hT2, ← B0f (g := B1P p) (fun i _ => rfl)]; rfl
   have hdefd : T3.set a [.isl RR] = i9 (B1w p) .nils n (a + 1) := by
    rw [← hT3, ← B0f (g := B1w p) (fun i _ => rfl)]; rw [← hRR, ← hnle]; rfl
   have hfin : ∀ (sl : List (Nat × V)) (m3 : Nat), y7 sl [(40, .int .i64 ((a : Int) + 1)), (39, .int .i64 n), (38, .isl rcode), (6, .sl (24 * 10000 + 36) 3 0 n), (5, .sl (24 * 10000 + 32) 2 0 n), (4, .sl (24 * 10000 + 28) 1 0 n), (3, .int .i64 N), (1, .ptr (24 * 10000 + 1) 0 0 0)] →
     Wk ⟨sl, ((24 * 10000 + 36), 3, .rows 1 (T3.set a [.isl RR])) :: ((24 * 10000 + 32), 2, .rows 1 (T2.set a [.iptr [L5 (B3J p a)] 0 0])) :: ((24 * 10000 + 28), 1, .rows 1 (T1.set a [.sl (24 * 10000 + 48) (m + 1) 0 N])) :: ((24 * 10000 + 48), m + 1, .rows 1 (List.replicate N [.bool false])) :: ((24 * 10000 + 1), 0, .rows 11 [pr]) :: fm, m3⟩
      ⟨[(40, .int .i64 ((a : Int) + 1)), (39, .int .i64 n), (38, .isl rcode), (6, .sl (24 * 10000 + 36) 3 0 n), (5, .sl (24 * 10000 + 32) 2 0 n), (4, .sl (24 * 10000 + 28) 1 0 n), (3, .int .i64 N), (1, .ptr (24 * 10000 + 1) 0 0 0)], ((24 * 10000 + 36), 3, .rows 1 (T3.set a [.isl RR])) :: ((24 * 10000 + 32), 2, .rows 1 (T2.set a [.iptr [L5 (B3J p a)] 0 0])) :: ((24 * 10000 + 28), 1, .rows 1 (T1.set a [.sl (1000000000000 + a) (m + 1) 0 N])) :: ((24 * 10000 + 1), 0, .rows 11 [pr]) :: A1B (fun _ => Q7 N fun _ => false) (fun i => if i = a then m + 1 else S i) (a + 1), m3⟩ := by
    intro sl m3 hsl
    refine Wk.turn (fun b => if b = (24 * 10000 + 48) then 1000000000000 + a else b) (A5D.of (D0.1 hsl)) (.at 0 rfl rfl (.refl _) (.at 1 rfl rfl (.refl _) (.at 2 rfl rfl K1.set (.at 4 rfl rfl (.refl _) (C0X (b := (24 * 10000 + 48)) (B7W N) ?_ ?_ ?_ ?_)))))
    ·exact if_pos rfl
    ·intro j hj; exact if_neg (by omega)
    ·simp
    ·intro e he; rw [hfm] at he; simp [he]
   have fin := fun s => ih s (a + 1, fun i => if i = a then m + 1 else S i, m2) (by simp only; omega) (by simp only; omega)
   clear ih
   simp only [← hlive, ← hused, ← hdefd, hza] at fin
   have hX : ∀ e ∈ (((24 * 10000 + 32), 2, Blk.rows 1 (T2.set a [.iptr [L5 (B3J p a)] 0 0])) :: ((24 * 10000 + 28), 1, .rows 1 (T1.set a [.sl (24 * 10000 + 48) (m + 1) 0 N])) :: ((24 * 10000 + 48), m + 1, .rows 1 (List.replicate N [.bool false])) :: ((24 * 10000 + 1), 0, .rows 11 [pr]) :: fm : A0), e.1 ≠ (24 * 10000 + 75) := by
    intro e he
    simp only [List.mem_cons] at he
    rcases he with h | h | h | h | h
    ·simp [h]
    ·simp [h]
    ·simp [h]
    ·simp [h]
    ·rw [← hfm] at h
     obtain ⟨j, _, rfl⟩ := t7.1 h
     simp only [Y6]; omega
   generalize hnl : nl.length = L at *
   cases L with
   | zero =>
    simp only [dcH, dcT, List.nil_append]
    have hR0 : RR = [] := List.eq_nil_of_length_eq_zero (by omega)
    subst hR0
    simp -implicitDefEqProofs only [go_sem, Int.lt_irrefl, h1, h2]
    refine ⟨by omega, fin _ (Wk.trans (Wk.cell0 (sl' := [(40, .int .i64 ((a : Int) + 1)), (39, .int .i64 n), (38, .isl rcode), (6, .sl (24 * 10000 + 36) 3 0 n), (5, .sl (24 * 10000 + 32) 2 0 n), (4, .sl (24 * 10000 + 28) 1 0 n), (3, .int .i64 N), (1, .ptr (24 * 10000 + 1) 0 0 0)]) ?_ t3) (hfin _ _ ?_))⟩
    ·simp -implicitDefEqProofs only [go_sem]
    ·simp -implicitDefEqProofs only [go_sem]
   | succ k =>
    simp only [dcH, dcT, List.cons_append, List.nil_append]
    rw [List.take_of_length_le (by omega)]
    simp -implicitDefEqProofs only [go_sem, Int.lt_irrefl, h1, h2]
    refine ⟨by omega, fin _ (Wk.trans (Wk.cell (sl' := [(40, .int .i64 ((a : Int) + 1)), (39, .int .i64 n), (38, .isl rcode), (6, .sl (24 * 10000 + 36) 3 0 n), (5, .sl (24 * 10000 + 32) 2 0 n), (4, .sl (24 * 10000 + 28) 1 0 n), (3, .int .i64 N), (1, .ptr (24 * 10000 + 1) 0 0 0)]) ?_ (by decide) hX (by omega)) (hfin _ _ ?_))⟩
    ·simp -implicitDefEqProofs only [go_sem]
    ·simp -implicitDefEqProofs only [go_sem]
 have e : a = n := by omega
 subst e
 clear ih hlt ha
 have tl := fun i (hi : i < a) => B3s (f := A8d S N) (z := .nils) hi hi
 have tu := fun i (hi : i < a) => B3s (f := B1P p) (z := .nilp) hi hi
 have td := fun i (hi : i < a) => B3s (f := B1w p) (z := .nils) hi hi
 have l1 := Q2 (A8d S N) .nils a a
 have l2 := Q2 (B1P p) .nilp a a
 have l3 := Q2 (B1w p) .nils a a
 have s1 := A4q (A8d S N) .nils a a
 have s2 := A4q (B1P p) .nilp a a
 have s3 := A4q (B1w p) .nils a a
 generalize i9 (A8d S N) .nils a a = LV at *
 generalize i9 (B1P p) .nilp a a = UV at *
 generalize i9 (B1w p) .nils a a = DV at *
 simp only [A8d, B1P, B1w] at tl tu td
 clear hfd
 generalize hUe : B3J p = U at *
 generalize hDe : C2U p = D at *
 have hDR : ∀ i (l : List Int), B6r p i l = l.map fun x => [.iptr [L5 (D i x)] 0 0] := fun i l => by rw [← hDe]; rfl
 have hnin := fun (i : Nat) x (h : x ∈ C2 p.code i) => A2N h
 rw [hnn] at hnin
 simp -implicitDefEqProofs only [go_sem, Int.lt_irrefl]
 refine Run.keep [11, 6, 5, 4, 3, 1] ?_
 have hbq : ∀ k i : Nat, k < 1000000000000 → (k = 1000000000000 + i) = False := fun k i h => eq_false (by omega)
 have hbq2 : ∀ k i : Nat, k < 1000000000000 → (1000000000000 + i = k) = False := fun k i h => eq_false (by omega)
 refine Run.roundsK (fun (x : (Nat → Nat → Bool) × Bool) => ⟨[(11, .bool x.2), (6, .sl (24 * 10000 + 36) 3 0 a), (5, .sl (24 * 10000 + 32) 2 0 a), (4, .sl (24 * 10000 + 28) 1 0 a), (3, .int .i64 N), (1, .ptr (24 * 10000 + 1) 0 0 0)],
   ((24 * 10000 + 36), 3, .rows 1 DV) :: ((24 * 10000 + 32), 2, .rows 1 UV) :: ((24 * 10000 + 28), 1, .rows 1 LV) :: ((24 * 10000 + 1), 0, .rows 11 [pr]) :: A1B (fun i => Q7 N (x.1 i)) S a, m⟩)
  (fun x => A7S U (fun a => C2 p.code a) D x.1 ∧ (x.2 = false → ∀ i r, i < a → r < N → A1H U (fun a => C2 p.code a) D x.1 i r)) (fun x => 2 * unM a N x.1 + (if x.2 then 1 else 0)) (fun _ _ => false, true) ?_ ⟨fun _ _ h => absurd h (by simp), fun h => absurd h (by simp)⟩ ?_
 ·refine B7.wk (B7.of (by simp -implicitDefEqProofs only [go_sem]) (fun e he => he) (by simp -implicitDefEqProofs only [go_sem]))
 rintro ⟨M, more⟩ ⟨hS0, hcl⟩ ih
 simp only at hS0 hcl ih ⊢
 refine Run.unf B1A (Run.go 100 ?_)
 cases more with
 | false =>
  have hcl := hcl rfl
  clear ih
  simp -implicitDefEqProofs only [go_sem, h1, h2, g5, k5]
  refine ⟨by omega, by omega, ?_⟩
  refine Run.keep [161, 160, 20, 4, 3] ?_
  have hLV : B9Y p = .isl ((List.range a).map fun i => [.isl ((((List.range N).filter (M i)).map fun r => ((r : Nat) : Int)).map zrw)]) := by
   unfold B9Y
   rw [hnn]
   refine congrArg V.isl (List.map_congr_left fun i hi => ?_)
   have hia : i < a := List.mem_range.1 hi
   unfold lvL
   rw [hNe, show (List.range N).filter (B9X p i) = (List.range N).filter (M i) from List.filter_congr fun r hr => ?_]
   have hrN := List.mem_range.1 hr
   have e1 : B9X p i r = true ↔ M i r = true := by
    unfold B9X
    rw [hUe, hDe, C1s]
    exact ⟨fun h => B6f (n := a) (N := N) (fun b x hx => hnin b x hx) hcl h hia hrN, fun h => hS0 i r h⟩
   exact Bool.eq_iff_iff.2 e1
  rw [hLV]
  generalize hM : (fun i => (((List.range N).filter (M i)).map fun r => ((r : Nat) : Int)).map zrw) = OV at *
  have hOV : ∀ i, (((List.range N).filter (M i)).map fun r => ((r : Nat) : Int)).map zrw = OV i := fun i => by rw [← hM]
  simp only [hOV]
  have hfg := fun (i : Nat) hi => B6G (F := fun i => Q7 N (M i)) (S := S) (m := a) (i := i) hi
  have hfd := fun (b : Nat) hb => B2B (F := fun i => Q7 N (M i)) (S := S) (m := a) (b := b) hb
  have hfn : ∀ e ∈ A1B (fun i => Q7 N (M i)) S a, 1000000000000 ≤ e.1 := fun e he => by
   obtain ⟨j, _, rfl⟩ := t7.1 he
   simp only [Y6]; omega
  rw [hfd _ (by decide)]
  generalize A1B (fun i => Q7 N (M i)) S a = fm at *
  refine Run.roundsK (fun (x : Nat × Nat) => ⟨[(161, .int .i64 x.1), (160, .int .i64 a), (20, .sl (24 * 10000 + 158) m 0 a), (4, .sl (24 * 10000 + 28) 1 0 a), (3, .int .i64 N)],
    ((24 * 10000 + 158), m, .rows 1 (i9 (fun i => .isl (OV i)) .nils a x.1)) :: ((24 * 10000 + 28), 1, .rows 1 LV) :: fm, x.2⟩)
   (fun x => x.1 ≤ a) (fun x => a - x.1) (0, m + 1) ?_ (Nat.zero_le _) ?_
  ·refine B7.wk (B7.of (by simp -implicitDefEqProofs only [go_sem]) (fun e he => ?_) (by simp -implicitDefEqProofs only [go_sem]))
   simp only [B4K, List.mem_cons] at he ⊢
   rcases he with h | h | h <;> simp only [h, eq_self, true_or, or_true]
  rintro ⟨i, m2⟩ hi ih
  simp only at hi ih ⊢
  refine Run.unf B1E (Run.go 100 ?_)
  by_cases hia : i < a
  case neg =>
   have e0 : i = a := by omega
   subst e0
   have tl2 := Q2 (fun j => V.isl (OV j)) .nils i i
   have tv : (i9 (fun j => V.isl (OV j)) .nils i i) = (List.range i).map fun j => [.isl (OV j)] := by
    unfold i9
    exact List.map_congr_left fun j hj => by rw [if_pos (List.mem_range.1 hj)]
   have hfz : ∀ d h, ((List.range i).map fun j => [V.isl (OV j)]).map (fun r => r.map (frz d h)) = (List.range i).map fun j => [V.isl (OV j)] := fun d h => by
    rw [List.map_map]
    refine List.map_congr_left fun j _ => ?_
    have hz := A2K d h (((List.range N).filter (M j)).map fun r => ((r : Nat) : Int))
    rw [hOV] at hz
    have hq : frz d h (.isl (OV j)) = .isl (OV j) := by
     cases d <;> exact (by simp only [frz, V.sub, N6]; exact congrArg V.isl hz)
    simp only [Function.comp, List.map_cons, List.map_nil, hq]
   rw [tv] at tl2 ⊢
   generalize ((List.range i).map fun j => [V.isl (OV j)]) = TV at *
   have tk : TV.take i = TV := List.take_of_length_le (by omega)
   have tb : Nat.ble i TV.length = true := Nat.ble_eq_true_of_le (by omega)
   simp -implicitDefEqProofs only [go_sem, Int.lt_irrefl, tk, tb, tl2]
   exact hfz _ _
  have q0 : ((i : Int) < (a : Int)) = True := eq_true (by omega)
  have q1 : ((0 : Int) ≤ (i : Int)) = True := eq_true (by omega)
  have t0 := B0e (f := fun j => V.isl (OV j)) (z := .nils) hia
  have tz := A4q (fun j => V.isl (OV j)) .nils a i
  have tlen := Q2 (fun j => V.isl (OV j)) .nils a i
  have tset : (i9 (fun j => V.isl (OV j)) .nils a i).set i [.isl (OV i)] = i9 (fun j => V.isl (OV j)) .nils a (i + 1) := B0f (g := fun j => V.isl (OV j)) (fun _ _ => rfl)
  have hlx := tl i hia
  have hgx := hfg i hia
  have hOi := hOV i
  have hOl : (OV i).length = A5w (M i) N := by rw [← hOi]; simp [A5w]
  have hOa : ∀ r, r < N → M i r = true → (OV i)[A5w (M i) r]? = some [.int .i64 (r : Nat)] := fun r hr h => by
   rw [← hOi, List.getElem?_map, List.getElem?_map, B4h h hr]; rfl
  have fin := fun s (m3 : Nat) => ih s (i + 1, m3) (by simp only; omega) (by simp only; omega)
  clear ih
  simp only [← tset] at fin
  have hzi : ((i + 1 : Nat) : Int) = (i : Int) + 1 := by omega
  generalize i9 (fun j => V.isl (OV j)) .nils a i = T at *
  generalize OV i = R at *
  simp -implicitDefEqProofs only [go_sem, q0]
  refine Run.keep [165, 164, 161, 160, 21, 20, 4, 3] ?_
  refine Run.roundsK (fun (y : Nat × Nat × Nat) => ⟨[(165, .int .i64 y.1), (164, .int .i64 N), (161, .int .i64 i), (160, .int .i64 a), (21, .int .i64 i), (20, .sl (24 * 10000 + 158) m 0 a), (4, .sl (24 * 10000 + 28) 1 0 a), (3, .int .i64 N)],
    dcH R (24 * 10000 + 183) y.2.1 (A5w (M i) y.1) ++ ((24 * 10000 + 158), m, .rows 1 (dcT T i (24 * 10000 + 183) y.2.1 (A5w (M i) y.1))) :: ((24 * 10000 + 28), 1, .rows 1 LV) :: fm, y.2.2⟩)
   (fun y => y.1 ≤ N) (fun y => N - y.1) (0, 0, m2) ?_ (Nat.zero_le _) ?_
  ·refine B7.wk (B7.of (by simp -implicitDefEqProofs only [go_sem]) (fun e he => ?_) (by simp -implicitDefEqProofs only [go_sem]))
   have hc0 : A5w (M i) 0 = 0 := rfl
   simp only [hc0, dcH, dcT, List.nil_append] at he ⊢
   exact he
  rintro ⟨r, st, m3⟩ hr ih2
  simp only at hr ih2 ⊢
  refine Run.unf B1F (Run.go 100 ?_)
  have hzr : ((r + 1 : Nat) : Int) = (r : Int) + 1 := by omega
  have hset : ∀ (X : List V), (T.set i X)[i]? = some X := fun X => by rw [List.getElem?_set]; simp [tlen, hia]
  by_cases hrN : r < N
  ·have w0 : ((r : Int) < (N : Int)) = True := eq_true (by omega)
   have w1 : ((0 : Int) ≤ (r : Int)) = True := eq_true (by omega)
   have hbr := A5F (f := M i) hrN
   have hbl := A0A N (M i)
   cases hm : M i r with
   | false =>
    have hc := C5h (q := M i) hm
    have fin2 := fun s => ih2 s (r + 1, st, m3) (by simp only; omega) (by simp only; omega)
    clear ih2
    simp only [hc] at fin2
    rw [hm] at hbr
    generalize hk : A5w (M i) r = k at *
    cases k with
    | zero =>
     simp only [dcH, dcT, List.nil_append] at fin2 ⊢
     simp -implicitDefEqProofs only [go_sem, q0, q1, w0, w1, hia, l1, s1, hlx, hgx, hbq, hbr, hbl, hrN, Nat.mul_one, Option.some.injEq, forall_eq']
     refine ⟨by omega, fin2 _ (B7.wk (B7.of (by simp -implicitDefEqProofs only [go_sem, hzr]) (fun e he => he) (by simp -implicitDefEqProofs only [go_sem])))⟩
    | succ k =>
     simp only [dcH, dcT, List.cons_append, List.nil_append] at fin2 ⊢
     simp -implicitDefEqProofs only [go_sem, q0, q1, w0, w1, hia, l1, s1, hlx, hgx, hbq, hbr, hbl, hrN, Nat.mul_one, Option.some.injEq, forall_eq']
     refine ⟨by omega, fin2 _ (B7.wk (B7.of (by simp -implicitDefEqProofs only [go_sem, hzr]) (fun e he => he) (by simp -implicitDefEqProofs only [go_sem])))⟩
   | true =>
    have hc := C2M (q := M i) hm
    have hRx := B4L (hOa r hrN hm)
    have hkl : A5w (M i) r ≤ r := by unfold A5w; exact Nat.le_trans (List.length_filter_le _ _) (by simp)
    have fin2 := fun s => ih2 s (r + 1, m3, m3 + 1) (by simp only; omega) (by simp only; omega)
    clear ih2
    simp only [hc] at fin2
    rw [hm] at hbr
    generalize hk : A5w (M i) r = k at *
    cases k with
    | zero =>
     simp only [dcH, dcT, List.nil_append, hRx, List.take_zero, List.cons_append] at fin2 ⊢
     simp -implicitDefEqProofs only [go_sem, q0, q1, w0, w1, hia, l1, s1, t0, tz, tlen, hlx, hgx, hbq, hbr, hbl, hfd, hrN, Nat.mul_one, Option.some.injEq, forall_eq']
     refine ⟨by omega, fin2 _ (B7.wk (B7.of (by simp -implicitDefEqProofs only [go_sem, hzr]) (fun e he => ?_) (by simp -implicitDefEqProofs only [go_sem])))⟩
     simp only [List.mem_cons] at he ⊢
     rcases he with h | h | h | h <;> simp only [h, eq_self, true_or, or_true]
    | succ k =>
     simp only [dcH, dcT, hRx, List.cons_append, List.nil_append] at fin2 ⊢
     have hRk : (R.take (k + 1)).length = k + 1 := by
      have := (List.getElem?_eq_some_iff.1 (hOa r hrN hm)).1
      rw [List.length_take]; omega
     generalize R.take (k + 1) = Rk at *
     simp -implicitDefEqProofs only [go_sem, q0, q1, w0, w1, hia, l1, s1, hset, tlen, hRk, List.length_set, List.set_set, hlx, hgx, hbq, hbr, hbl, hfd, hrN, Nat.mul_one, Option.some.injEq, forall_eq']
     refine ⟨by omega, by omega, fin2 _ (B7.wk (B7.of (by simp -implicitDefEqProofs only [go_sem, hzr]) (fun e he => ?_) (by simp -implicitDefEqProofs only [go_sem])))⟩
     rw [List.take_of_length_le (by omega)]
     simp only [List.mem_cons] at he ⊢
     rcases he with h | h | h | h <;> simp only [h, eq_self, true_or, or_true]
  ·have e0 : r = N := by omega
   subst e0
   clear ih2
   rw [← hOl]
   have hX : ∀ e ∈ (((24 * 10000 + 28), 1, Blk.rows 1 LV) :: fm : A0), e.1 ≠ (24 * 10000 + 183) := by
    intro e he
    simp only [List.mem_cons] at he
    rcases he with h | h
    ·simp [h]
    ·have := hfn e h; omega
   generalize hL : R.length = L at *
   cases L with
   | zero =>
    simp only [dcH, dcT, List.nil_append]
    have hR0 : R = [] := List.eq_nil_of_length_eq_zero hL
    subst hR0
    simp -implicitDefEqProofs only [go_sem, Int.lt_irrefl]
    refine ⟨by omega, fin _ m3 (Wk.cell0 ?_ t0)⟩
    simp -implicitDefEqProofs only [go_sem, hzi]
   | succ k =>
    simp only [dcH, dcT, List.cons_append, List.nil_append]
    rw [List.take_of_length_le (by omega)]
    simp -implicitDefEqProofs only [go_sem, Int.lt_irrefl]
    refine ⟨by omega, fin _ m3 (Wk.cell ?_ (by decide) hX (by omega))⟩
    simp -implicitDefEqProofs only [go_sem, hzi]
 | true =>
  clear hcl
  simp -implicitDefEqProofs only [go_sem, h1, h2, g5, k5]
  refine ⟨by omega, ?_⟩
  refine Run.keep [12, 11, 6, 5, 4, 3, 1] ?_
  refine Run.roundsK (fun (y : Nat × (Nat → Nat → Bool) × Bool) => ⟨[(12, .int .i64 ((a : Int) - 1 - y.1)), (11, .bool y.2.2), (6, .sl (24 * 10000 + 36) 3 0 a), (5, .sl (24 * 10000 + 32) 2 0 a), (4, .sl (24 * 10000 + 28) 1 0 a), (3, .int .i64 N), (1, .ptr (24 * 10000 + 1) 0 0 0)],
    ((24 * 10000 + 36), 3, .rows 1 DV) :: ((24 * 10000 + 32), 2, .rows 1 UV) :: ((24 * 10000 + 28), 1, .rows 1 LV) :: ((24 * 10000 + 1), 0, .rows 11 [pr]) :: A1B (fun i => Q7 N (y.2.1 i)) S a, m⟩)
   (fun y => y.1 ≤ a ∧ A7S U (fun a => C2 p.code a) D y.2.1 ∧ (y.2.2 = false → y.2.1 = M ∧ ∀ i r, a ≤ i + y.1 → i < a → r < N → A1H U (fun a => C2 p.code a) D M i r) ∧ (y.2.2 = true → unM a N y.2.1 < unM a N M)) (fun y => a - y.1) (0, M, false) ?_ ⟨Nat.zero_le _, hS0, fun _ => ⟨rfl, fun i r h1 h2 => absurd h1 (by simp only; omega)⟩, fun h => absurd h (by simp)⟩ ?_
  ·refine B7.wk (B7.of (by simp -implicitDefEqProofs only [go_sem, Int.sub_zero]) (fun e he => he) (by simp -implicitDefEqProofs only [go_sem]))
  rintro ⟨j, M1, more⟩ ⟨hj, hS1, hc1, hd1⟩ ih2
  simp only at hj hS1 hc1 hd1 ih2 ⊢
  refine Run.unf B1B (Run.go 100 ?_)
  by_cases hja : j < a
  case neg =>
   have e0 : j = a := by omega
   subst e0
   have q0 : ((0 : Int) ≤ (j : Int) - 1 - (j : Int)) = False := eq_false (by omega)
   simp -implicitDefEqProofs only [go_sem, q0, ge_iff_le]
   refine ih _ (M1, more) ⟨hS1, fun hm i r hi hr => ?_⟩ ?_ (B7.wk (B7.of (by simp -implicitDefEqProofs only [go_sem]) (fun e he => he) (by simp -implicitDefEqProofs only [go_sem])))
   ·simp only at hm
    obtain ⟨rfl, hcc⟩ := hc1 hm
    exact hcc i r (by omega) hi hr
   ·cases more with
    | true => have := hd1 rfl; simp; omega
    | false => obtain ⟨rfl, _⟩ := hc1 rfl; simp
  obtain ⟨at_, hat⟩ : ∃ at_ : Nat, at_ = a - 1 - j := ⟨_, rfl⟩
  have ea : (a : Int) - 1 - (j : Int) = (at_ : Int) := by omega
  have ea2 : (a : Int) - 1 - ((j + 1 : Nat) : Int) = (at_ : Int) - 1 := by omega
  have hata : at_ < a := by omega
  have q0 : ((0 : Int) ≤ (at_ : Int)) = True := eq_true (by omega)
  have q1 : ((at_ : Int) < (a : Int)) = True := eq_true (by omega)
  have xu := tu at_ hata
  have xd := td at_ hata
  have xl := tl at_ hata
  have hni := hnin at_
  rw [ea]
  simp -implicitDefEqProofs only [go_sem, q0, q1, hata, xu, xd, l2, l3, s2, s3, h1, h2, ge_iff_le, Option.some.injEq, forall_eq']
  refine A2.pureF (hnx at_) (by simp -implicitDefEqProofs only [go_sem, hsub]) ?_
  have hnl2 := p8 p.code at_
  have hcl0 : ∀ {MM : Nat → Nat → Bool} {r : Nat}, (U at_ r || A5v D MM (C2 p.code at_) at_ r (C2 p.code at_).length) = true → A7S U (fun a => C2 p.code a) D MM → LiveR U (fun a => C2 p.code a) D at_ r := fun h hs => C3D (Nx := fun a => C2 p.code a) hs (fun x hx => (hni x hx).1) h
  have hcl1 : ∀ {r : Nat}, ((U at_ r || A5v D M (C2 p.code at_) at_ r (C2 p.code at_).length) = true → M at_ r = true) → A1H U (fun a => C2 p.code a) D M at_ r := fun h => B8c (Nx := fun a => C2 p.code a) h
  have hDRl := hDR at_ (C2 p.code at_)
  generalize B6r p at_ (C2 p.code at_) = DRl at *
  generalize hnle : C2 p.code at_ = nl at *
  have hnls : ∀ (k : Nat) (x : Int), nl[k]? = some x → (nl.map zrw)[k]? = some [.int .i64 x] := fun k x h => A8M h
  have hnll : (nl.map zrw).length = nl.length := List.length_map ..
  have hnlz := O7 nl
  have hDl : DRl.length = nl.length := by rw [hDRl]; simp
  have hDz : B6 DRl 1 = True := by rw [hDRl]; exact eq_true fun r hr => by obtain ⟨y, _, rfl⟩ := List.mem_map.1 hr; rfl
  have hDa : ∀ (k : Nat) (x : Int), nl[k]? = some x → DRl[k]? = some [.iptr [L5 (D at_ x)] 0 0] := fun k x h => by rw [hDRl, List.getElem?_map, h]; rfl
  generalize nl.map zrw = nls at *
  simp -implicitDefEqProofs only [go_sem]
  refine Run.keep [100, 99, 15, 14, 13, 12, 11, 6, 5, 4, 3, 1] ?_
  refine Run.roundsK (fun (y : Nat × (Nat → Nat → Bool) × Bool) => ⟨[(100, .int .i64 y.1), (99, .int .i64 N), (15, .isl nls), (14, .isl DRl), (13, .iptr [L5 (U at_)] 0 0), (12, .int .i64 at_), (11, .bool y.2.2), (6, .sl (24 * 10000 + 36) 3 0 a), (5, .sl (24 * 10000 + 32) 2 0 a), (4, .sl (24 * 10000 + 28) 1 0 a), (3, .int .i64 N), (1, .ptr (24 * 10000 + 1) 0 0 0)],
    ((24 * 10000 + 36), 3, .rows 1 DV) :: ((24 * 10000 + 32), 2, .rows 1 UV) :: ((24 * 10000 + 28), 1, .rows 1 LV) :: ((24 * 10000 + 1), 0, .rows 11 [pr]) :: A1B (fun i => Q7 N (y.2.1 i)) S a, m⟩)
   (fun y => y.1 ≤ N ∧ A7S U (fun a => C2 p.code a) D y.2.1 ∧ (y.2.2 = false → y.2.1 = M ∧ (∀ i r, a ≤ i + j → i < a → r < N → A1H U (fun a => C2 p.code a) D M i r) ∧ ∀ r, r < y.1 → A1H U (fun a => C2 p.code a) D M at_ r) ∧ (y.2.2 = true → unM a N y.2.1 < unM a N M)) (fun y => N - y.1) (0, M1, more) ?_ ⟨Nat.zero_le _, hS1, fun h => ⟨(hc1 h).1, (hc1 h).2, fun r hr => absurd hr (Nat.not_lt_zero r)⟩, hd1⟩ ?_
  ·refine B7.wk (B7.of (by simp -implicitDefEqProofs only [go_sem]) (fun e he => he) (by simp -implicitDefEqProofs only [go_sem]))
  rintro ⟨r, M2, mo⟩ ⟨hr, hS2, hc2, hd2⟩ ih3
  simp only at hr hS2 hc2 hd2 ih3 ⊢
  refine Run.unf B1C (Run.go 100 ?_)
  by_cases hrN : r < N
  case neg =>
   have e0 : r = N := by omega
   subst e0
   simp -implicitDefEqProofs only [go_sem, Int.lt_irrefl]
   refine ⟨by omega, ih2 _ (j + 1, M2, mo) ⟨by simp only; omega, hS2, fun h => ⟨(hc2 h).1, fun i r hi hia hr => ?_⟩, hd2⟩ (by simp only; omega) (B7.wk (B7.of (by simp -implicitDefEqProofs only [go_sem, ea2]) (fun e he => he) (by simp -implicitDefEqProofs only [go_sem])))⟩
   simp only at hi
   by_cases ci : a ≤ i + j
   ·exact (hc2 h).2.1 i r ci hia hr
   ·obtain rfl : i = at_ := by omega
    exact (hc2 h).2.2 r hr
  have w0 : ((r : Int) < (N : Int)) = True := eq_true (by omega)
  have w1 : ((0 : Int) ≤ (r : Int)) = True := eq_true (by omega)
  have w2 : ((r : Int) < 4096) = True := eq_true (by omega)
  have hzr : ((r + 1 : Nat) : Int) = (r : Int) + 1 := by omega
  have hur := B1X (f := U at_) (x := r) (by omega)
  have hfd := fun (b : Nat) hb => B2B (F := fun i => Q7 N (M2 i)) (S := S) (m := a) (b := b) hb
  have hfg := fun (i : Nat) hi => B6G (F := fun i => Q7 N (M2 i)) (S := S) (m := a) (i := i) hi
  have hputm := fun X e => C3g (F := fun i => Q7 N (M2 i)) (S := S) (m := a) (i := at_) (X := X) (e := e)
  generalize hfm2 : A1B (fun i => Q7 N (M2 i)) S a = fm2 at *
  simp -implicitDefEqProofs only [go_sem, w0, w1, w2, hur, hnll, Nat.mul_one, Option.some.injEq, forall_eq']
  refine Run.keep [110, 109, 108, 100, 99, 17, 16, 15, 14, 13, 12, 11, 6, 5, 4, 3, 1] ?_
  refine Run.roundsK (fun (k : Nat) => ⟨[(110, .int .i64 k), (109, .int .i64 nl.length), (108, .isl nls), (100, .int .i64 r), (99, .int .i64 N), (17, .bool (U at_ r || A5v D M2 nl at_ r k)), (16, .int .i64 r), (15, .isl nls), (14, .isl DRl), (13, .iptr [L5 (U at_)] 0 0), (12, .int .i64 at_), (11, .bool mo), (6, .sl (24 * 10000 + 36) 3 0 a), (5, .sl (24 * 10000 + 32) 2 0 a), (4, .sl (24 * 10000 + 28) 1 0 a), (3, .int .i64 N), (1, .ptr (24 * 10000 + 1) 0 0 0)],
    ((24 * 10000 + 36), 3, .rows 1 DV) :: ((24 * 10000 + 32), 2, .rows 1 UV) :: ((24 * 10000 + 28), 1, .rows 1 LV) :: ((24 * 10000 + 1), 0, .rows 11 [pr]) :: fm2, m⟩)
   (fun k => k ≤ nl.length) (fun k => nl.length - k) 0 ?_ (Nat.zero_le _) ?_
  ·refine B7.wk (B7.of (by simp -implicitDefEqProofs only [go_sem, C0r, Bool.or_false]) (fun e he => he) (by simp -implicitDefEqProofs only [go_sem]))
  rintro k hk ih4
  refine Run.unf B1D (Run.go 100 ?_)
  have hzk : ((k + 1 : Nat) : Int) = (k : Int) + 1 := by omega
  by_cases hlk : k < nl.length
  ·have v0 : ((k : Int) < (nl.length : Int)) = True := eq_true (by omega)
   have v1 : ((0 : Int) ≤ (k : Int)) = True := eq_true (by omega)
   obtain ⟨x, hx⟩ : ∃ x, nl[k]? = some x := ⟨nl[k], by simp [hlk]⟩
   have hxr := hnls k x hx
   have hxi := hni x (List.mem_of_getElem? hx)
   obtain ⟨xx, rfl⟩ : ∃ xx : Nat, x = xx := ⟨x.toNat, by omega⟩
   have x0 : ((0 : Int) ≤ (xx : Int)) = True := eq_true (by omega)
   have x1 : ((xx : Int) < (a : Int)) = True := eq_true (by omega)
   have x2 : (xx < a) = True := eq_true (by omega)
   have hdx := hDa k xx hx
   have hdr := B1X (f := D at_ xx) (x := r) (by omega)
   have hlx := tl xx (by omega)
   have hgx := hfg xx (by omega)
   have hbr := A5F (f := M2 xx) hrN
   have hbl := A0A N (M2 xx)
   have hany := C0q (D := D) (M := M2) (a := at_) (r := r) hx
   rw [show ((xx : Int)).toNat = xx by omega] at hany
   have fin := fun s => ih4 s (k + 1) (by omega) (by omega)
   clear ih4
   rw [hany, ← Bool.or_assoc] at fin
   generalize (U at_ r || A5v D M2 nl at_ r k) = is at *
   generalize D at_ xx r = dv at *
   generalize M2 xx r = mv at *
   cases is with
   | true =>
    simp -implicitDefEqProofs only [go_sem, v0, v1, hnll, hnlz, hxr, hlk, Option.some.injEq, forall_eq']
    refine ⟨by omega, fin _ (B7.wk (B7.of (by simp -implicitDefEqProofs only [go_sem, hzk, Bool.true_or]) (fun e he => he) (by simp -implicitDefEqProofs only [go_sem])))⟩
   | false =>
    cases dv with
    | true =>
     simp -implicitDefEqProofs only [go_sem, v0, v1, w1, w2, hnll, hnlz, hxr, hlk, hDl, hDz, hdx, hdr, Nat.mul_one, Option.some.injEq, forall_eq']
     refine ⟨by omega, fin _ (B7.wk (B7.of (by simp -implicitDefEqProofs only [go_sem, hzk, Bool.not_true, Bool.false_and, Bool.or_false]) (fun e he => he) (by simp -implicitDefEqProofs only [go_sem])))⟩
    | false =>
     simp -implicitDefEqProofs only [go_sem, v0, v1, w0, w1, w2, x0, x1, x2, hnll, hnlz, hxr, hlk, hDl, hDz, hdx, hdr, l1, s1, hlx, hgx, hbq, hbr, hbl, hrN, Nat.mul_one, Option.some.injEq, forall_eq']
     refine ⟨by omega, fin _ (B7.wk (B7.of (by simp -implicitDefEqProofs only [go_sem, hzk, Bool.not_false, Bool.true_and, Bool.false_or]) (fun e he => he) (by simp -implicitDefEqProofs only [go_sem])))⟩
  ·have e0 : k = nl.length := by omega
   subst e0
   clear ih4 hlk hk
   have hgx := hfg at_ hata
   have hbr := A5F (f := M2 at_) hrN
   have hbl := A0A N (M2 at_)
   have hlive : (U at_ r || A5v D M2 nl at_ r nl.length) = true → LiveR U (fun a => C2 p.code a) D at_ r := fun h => hcl0 h hS2
   have hclos : (U at_ r || A5v D M2 nl at_ r nl.length) = false ∨ M2 at_ r = true → mo = false → A1H U (fun a => C2 p.code a) D M at_ r := fun h hm => by
    obtain ⟨rfl, _⟩ := hc2 hm
    exact hcl1 fun h2 => h.elim (fun h3 => by rw [h2] at h3; cases h3) fun h3 => h3
   have same : (U at_ r || A5v D M2 nl at_ r nl.length) = false ∨ M2 at_ r = true → ∀ s, _ → _ := fun h s => ih3 s (r + 1, M2, mo) ⟨by simp only; omega, hS2, fun hm => ⟨(hc2 hm).1, (hc2 hm).2.1, fun r' hr' => by
    by_cases c : r' = r
    ·subst c; exact hclos h hm
    ·exact (hc2 hm).2.2 r' (by simp only at hr'; omega)⟩, hd2⟩ (by simp only; omega)
   have mark : (U at_ r || A5v D M2 nl at_ r nl.length) = true → M2 at_ r = false → ∀ s, _ → _ := fun h hm s => ih3 s (r + 1, A7y M2 at_ r, true) ⟨by simp only; omega, B9i hS2 (hlive h), fun hx => absurd hx (by simp), fun _ => by
    have h1 := C4K (n := a) (N := N) hata hrN hm
    simp only
    cases mo with
    | true => have := hd2 rfl; omega
    | false => obtain ⟨rfl, _⟩ := hc2 rfl; exact h1⟩ (by simp only; omega)
   clear ih3 hclos hlive hcl0 hcl1
   generalize (U at_ r || A5v D M2 nl at_ r nl.length) = is at *
   generalize hmv : M2 at_ r = mv at *
   cases is with
   | false =>
    have same := same (.inl rfl)
    clear mark
    simp -implicitDefEqProofs only [go_sem, Int.lt_irrefl]
    refine ⟨by omega, same _ (B7.wk (B7.of (by simp -implicitDefEqProofs only [go_sem, hzr]) (fun e he => by rw [← hfm2] at *; exact he) (by simp -implicitDefEqProofs only [go_sem])))⟩
   | true =>
    cases mv with
    | true =>
     have same := same (.inr rfl)
     clear mark
     simp -implicitDefEqProofs only [go_sem, Int.lt_irrefl, q0, q1, w0, w1, hata, l1, s1, xl, hgx, hbq, hbr, hbl, hrN, Nat.mul_one, Option.some.injEq, forall_eq']
     refine ⟨by omega, same _ (B7.wk (B7.of (by simp -implicitDefEqProofs only [go_sem, hzr]) (fun e he => by rw [← hfm2] at *; exact he) (by simp -implicitDefEqProofs only [go_sem])))⟩
    | false =>
     have mark := mark rfl rfl
     clear same
     simp -implicitDefEqProofs only [go_sem, Int.lt_irrefl, q0, q1, w0, w1, hata, l1, s1, xl, hgx, hbq, hbr, hbl, hrN, Nat.mul_one, Option.some.injEq, forall_eq']
     refine ⟨by omega, mark _ (B7.wk (B7.of (by simp -implicitDefEqProofs only [go_sem, hzr]) (fun e he => ?_) (by simp -implicitDefEqProofs only [go_sem])))⟩
     simp only [C3j, List.mem_cons] at he ⊢
     rcases he with h | h | h | h | h
     ·simp only [h, eq_self, true_or, or_true]
     ·simp only [h, eq_self, true_or, or_true]
     ·simp only [h, eq_self, true_or, or_true]
     ·simp only [h, eq_self, true_or, or_true]
     ·rcases hputm _ _ h with h | h
      ·simp only [h, eq_self, true_or, or_true]
      ·simp only [h, or_true]
end Go.Proofs.YtoanghfeednogaaGreatDoor
