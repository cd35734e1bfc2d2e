/-
 The states of the verifier, as lists and functions: rows of truth values, maps with numbers as keys, the effect of an instruction. No condition.
-/
import Derived.Test.YtilggmmkmegefaaGreatDoorRwM
import Derived.Test.YtilggmmkmegefaaGreatDoorRchM
import Derived.Test.YtilggmmkmegefaaGreatDoorUtl
set_option linter.unusedVariables false
set_option linter.unusedSimpArgs false
set_option maxRecDepth 100000
namespace Go.Proofs.YtilggmmkmegefaaGreatDoor
open Go.Abs
theorem B7o {α : Type} (f : α → List V) (sz : Nat) (h : ∀ x, (f x).length = sz) (l : List α) : C6 (l.map f) sz = True := eq_true fun r hr => by obtain ⟨y, _, rfl⟩ := List.mem_map.1 hr; exact h y
def C0 (N : Nat) (f : Nat → Bool) : List (List V) := (List.range N).map fun r => [.bool (f r)]
theorem G0 (N : Nat) (f : Nat → Bool) : (C0 N f).length = N := by simp [C0]
theorem S7 {N r : Nat} {f : Nat → Bool} (h : r < N) : (C0 N f)[r]? = some [.bool (f r)] := by simp [C0, h]
theorem B7I (N : Nat) : C0 N (fun _ => false) = List.replicate N [.bool false] := by
 unfold C0; rw [List.map_const']; simp
theorem H9 {N : Nat} {f g : Nat → Bool} (h : ∀ r, r < N → f r = g r) : C0 N f = C0 N g :=
 List.map_congr_left fun r hr => by rw [h r (List.mem_range.1 hr)]
theorem A3A {N r : Nat} {f : Nat → Bool} {b : Bool} (g : Nat → Bool) (hg : ∀ x, x < N → g x = if x = r then b else f x) : (C0 N f).set r [.bool b] = C0 N g := by
 refine List.ext_getElem? fun j => ?_
 rw [List.getElem?_set, G0]
 by_cases hj : j < N
 ·rw [S7 hj, S7 hj, hg j hj]
  by_cases d : r = j
  ·subst d; simp [hj]
  ·rw [if_neg d, if_neg (Ne.symm d)]
 ·rw [List.getElem?_eq_none (by rw [G0]; omega), List.getElem?_eq_none (by rw [G0]; omega)]
  split
  ·rw [if_neg (by omega)]
  ·rfl
theorem Y6 (N : Nat) (f : Nat → Bool) : C6 (C0 N f) 1 = True := eq_true fun r hr => by obtain ⟨i, _, rfl⟩ := List.mem_map.1 hr; rfl
theorem A2L (φ : Nat → Nat → Nat → Nat → V) (N : Nat) (f : Nat → Bool) : (C0 N f).map (fun r => r.map (V.sub φ)) = C0 N f := by
 unfold C0; rw [List.map_map]; exact List.map_congr_left fun y _ => by simp [V.sub]
theorem B7G (N : Nat) (f : Nat → Bool) : ∀ r ∈ C0 N f, flatL r = true := fun r hr => by obtain ⟨i, _, rfl⟩ := List.mem_map.1 hr; rfl
theorem C0B (l : List Int) : ∀ r ∈ l.map zrw, flatL r = true := fun r hr => by obtain ⟨i, _, rfl⟩ := List.mem_map.1 hr; rfl
theorem A0e (φ : Nat → Nat → Nat → Nat → V) (l : List Int) : (l.map zrw).map (fun r => r.map (V.sub φ)) = l.map zrw := by
 rw [List.map_map]; exact List.map_congr_left fun y _ => by simp [zrw, V.sub]
def I0 (l : List Nat) (F : Nat → V) : List (V × V) := l.map fun k => (.int .i64 (k : Nat), F k)
theorem A9s (l : List Nat) (F : Nat → V) : M2 (I0 l F) := fun e he => by obtain ⟨k, _, rfl⟩ := List.mem_map.1 he; exact ⟨k, rfl⟩
theorem A9o (F : Nat → V) (k : Nat) : ∀ l : List Nat, R0 (.int .i64 (k : Nat)) (I0 l F) = if k ∈ l then some (F k) else none
 | [] => rfl
 | a :: l => by
  have ih := A9o F k l
  simp only [I0, List.map_cons, R0, A0j, Option.getD_some] at ih ⊢
  by_cases c : k = a
  ·subst c; simp
  ·have : ¬ ((k : Int) = (a : Int)) := by omega
   simp only [this, decide_false, cond_false, ih, List.mem_cons, c, false_or]
theorem A8f {F : Nat → V} {k : Nat} {l : List Nat} (h : k ∈ l) : R0 (.int .i64 (k : Nat)) (I0 l F) = some (F k) := by rw [A9o, if_pos h]
theorem B4x {F : Nat → V} {k : Nat} {l : List Nat} (h : k ∉ l) : R0 (.int .i64 (k : Nat)) (I0 l F) = none := by rw [A9o, if_neg h]
theorem B4W {F G : Nat → V} {k : Nat} {v : V} : ∀ {l : List Nat}, k ∉ l → (∀ x ∈ l, G x = F x) → G k = v → A3H (.int .i64 (k : Nat)) v (I0 l F) = I0 (l ++ [k]) G
 | [], _, _, hv => by simp [I0, A3H, hv]
 | a :: l, hk, hg, hv => by
  have ih := B4W (F := F) (G := G) (v := v) (l := l) (fun h => hk (List.mem_cons_of_mem _ h)) (fun x hx => hg x (List.mem_cons_of_mem _ hx)) hv
  have : ¬ ((k : Int) = (a : Int)) := fun e => hk (by rw [show k = a by omega]; exact List.mem_cons_self)
  simp only [I0, List.map_cons, A3H, A0j, Option.getD_some, this, decide_false, cond_false, List.cons_append, List.map_append] at ih ⊢
  rw [ih, hg a List.mem_cons_self]
theorem A7B {F G : Nat → V} {l : List Nat} (h : ∀ x ∈ l, F x = G x) : I0 l F = I0 l G := List.map_congr_left fun x hx => by rw [h x hx]
def W7 (F : Nat → List (List V)) (S : Nat → Nat) (l : List Nat) : A2 := l.map (A9B F S)
theorem o8 {F : Nat → List (List V)} {S : Nat → Nat} {l : List Nat} {e : Nat × Nat × Blk} : e ∈ W7 F S l ↔ ∃ i, i ∈ l ∧ A9B F S i = e := by simp only [W7, List.mem_map]
theorem B6s {F : Nat → List (List V)} {S : Nat → Nat} {i : Nat} : ∀ {l : List Nat}, i ∈ l → A2.get (W7 F S l) (1000000000000 + i) (S i) = some (.rows 1 (F i))
 | a :: l, h => by
  simp only [W7, List.map_cons, A9B, A2.get]
  by_cases c : a = i
  ·subst c; simp
  ·have : Nat.beq (1000000000000 + a) (1000000000000 + i) = false := by
    cases hb : Nat.beq (1000000000000 + a) (1000000000000 + i) with
    | false => rfl
    | true => have := Nat.eq_of_beq_eq_true hb; omega
   rw [this, cond_false]
   exact B6s (List.mem_of_ne_of_mem (Ne.symm c) h)
theorem C2x {F : Nat → List (List V)} {S : Nat → Nat} {l : List Nat} {b : Nat} (h : b < 1000000000000) : A2.del (W7 F S l) b = W7 F S l := by
 refine List.filter_eq_self.2 fun e he => ?_
 obtain ⟨j, hj, rfl⟩ := o8.1 he
 simp only [A9B, C1u h, Bool.not_false]
structure Stt where
 set : Nat → Bool
 opn : Int
 marks : List Int
def B5a (i : Ins) (f : Nat → Bool) : Nat → Bool := if i.op = 16 then fun r => f r && decide ((r : Int) < i.a) else if i.op = 25 then fun r => f r && decide ((r : Int) < i.a + 3) else f
def S4 (i : Ins) (m : List Int) : List Int := if i.op = 28 then m ++ [i.a] else if i.op = 27 then m.filter (fun r => decide (r < i.a)) else m
def B5V (N : Nat) (w : List Int × Int) (f : Nat → Bool) : Nat → Bool := fun r => decide (r < N) && ((f r || w.1.contains (r : Int)) && (decide (w.2 < 0) || decide ((r : Int) < w.2)))
def B0l (N : Nat) (i : Ins) (s : Stt) : Stt := ⟨B5V N (D3 i) (B5a i s.set), (D3 i).2, S4 i s.marks⟩
def A1w (i : Ins) (a b : Int) : Bool := decide (i.op = 23 ∧ b = i.b) || decide (i.op = 24 ∧ (b ≠ i.b ∨ i.b = a + 1))
def D9 (N : Nat) (i : Ins) (a b : Int) (s : Stt) : Stt :=
 if A1w i a b = true ∧ s.set (i.a + 3).toNat = false then ⟨fun r => (B0l N i s).set r && decide ((r : Int) ≠ i.a + 3), (B0l N i s).opn, (B0l N i s).marks⟩ else B0l N i s
theorem A9v (N : Nat) (i : Ins) (a b : Int) (s : Stt) : (D9 N i a b s).opn = (D3 i).2 := by unfold D9; split <;> rfl
theorem A5X (N : Nat) (i : Ins) (a b : Int) (s : Stt) : (D9 N i a b s).marks = S4 i s.marks := by unfold D9; split <;> rfl
theorem B9K {N : Nat} {i : Ins} {a b : Int} {s : Stt} {r : Nat} (h : N ≤ r) : (D9 N i a b s).set r = false := by
 have : ¬ r < N := by omega
 unfold D9; split <;> simp [B0l, B5V, this]
def U8 (t o : Stt) : Stt := ⟨fun r => t.set r && o.set r, t.opn, t.marks⟩
def O7 (code : List Ins) (a : Nat) : Ins := code.getD a default
def B3Z (N : Nat) (params : Int) : Stt := ⟨fun r => decide (r < N) && decide ((r : Int) < params), -1, []⟩
def M0 (N : Nat) (params : Int) : Nat → Option Stt := fun a => if a = 0 then some (B3Z N params) else none
def J4 (M : Nat → Option Stt) (b : Nat) (s : Stt) : Nat → Option Stt := fun x => if x = b then some s else M x
def L7 (N : Nat) (code : List Ins) (M : Nat → Option Stt) (e : Nat × Int) : Nat → Option Stt :=
 match M e.1 with
 | none => M
 | some s => match M e.2.toNat with
  | none => J4 M e.2.toNat (D9 N (O7 code e.1) e.1 e.2 s)
  | some t => J4 M e.2.toNat (U8 t (D9 N (O7 code e.1) e.1 e.2 s))
def D6 (code : List Ins) : List (Nat × Int) := (List.range code.length).flatMap fun (a : Nat) => (F4 code a).map fun (b : Int) => (a, b)
def s9 (e : Nat × Int) : List V := [.int .i64 (e.1 : Nat), .int .i64 e.2]
theorem B6l {code : List Ins} {e : Nat × Int} (h : e ∈ D6 code) : e.1 < code.length ∧ e.2 ∈ F4 code e.1 ∧ 0 ≤ e.2 ∧ e.2 < code.length := by
 simp only [D6, List.mem_flatMap, List.mem_range, List.mem_map] at h
 obtain ⟨a, ha, b, hb, rfl⟩ := h
 exact ⟨ha, hb, B1u hb⟩
def A7E (N : Nat) (code : List Ins) (M : Nat → Option Stt) : Nat → Option Stt := (D6 code).foldl (L7 N code) M
def A6F (N : Nat) (code : List Ins) (params : Int) : Nat → (Nat → Option Stt)
 | 0 => M0 N params
 | k + 1 => A7E N code (A6F N code params k)
def A4Y (N : Nat) (code : List Ins) (params : Int) (M : Nat → Option Stt) : Prop := ∃ k, M = A6F N code params k ∧ A7E N code M = M
theorem B1l {N : Nat} {code : List Ins} {params : Int} {k : Nat} (h : A7E N code (A6F N code params k) = A6F N code params k) : ∀ j, A6F N code params (k + j) = A6F N code params k
 | 0 => rfl
 | j + 1 => by rw [← Nat.add_assoc, A6F, B1l h j, h]
theorem A4Y.unique {N : Nat} {code : List Ins} {params : Int} {M M' : Nat → Option Stt} (h : A4Y N code params M) (h' : A4Y N code params M') : M = M' := by
 obtain ⟨k, rfl, h1⟩ := h
 obtain ⟨j, rfl, h2⟩ := h'
 rcases Nat.le_total k j with c | c
 ·obtain ⟨d, rfl⟩ := Nat.le.dest c
  exact (B1l h1 d).symm
 ·obtain ⟨d, rfl⟩ := Nat.le.dest c
  exact B1l h2 d
open Classical in
noncomputable def stM (N : Nat) (code : List Ins) (params : Int) : Nat → Option Stt := if h : ∃ M, A4Y N code params M then h.choose else M0 N params
theorem C5A {N : Nat} {code : List Ins} {params : Int} {M : Nat → Option Stt} (h : A4Y N code params M) : M = stM N code params := by
 unfold stM
 rw [dif_pos ⟨M, h⟩]
 exact h.unique (Exists.choose_spec ⟨M, h⟩)
def C7A (N : Nat) (f : Nat → Bool) : Nat := ((List.range N).filter f).length
theorem C3P (N : Nat) (f : Nat → Bool) : C7A N f ≤ N := by unfold C7A; exact Nat.le_trans (List.length_filter_le _ _) (by simp)
theorem B2F {f g : Nat → Bool} (h : ∀ r, g r = true → f r = true) : ∀ l : List Nat, (l.filter g).length ≤ (l.filter f).length
 | [] => Nat.le_refl _
 | x :: l => by
  have ih := B2F h l
  simp only [List.filter_cons]
  cases hg : g x with
  | true => simp only [h x hg, if_true, List.length_cons]; omega
  | false =>
   cases f x <;> simp <;> omega
theorem B3y {f g : Nat → Bool} (h : ∀ r, g r = true → f r = true) {x : Nat} (h1 : f x = true) (h2 : g x = false) : ∀ {l : List Nat}, x ∈ l → (l.filter g).length < (l.filter f).length
 | a :: l, hx => by
  have ih := B2F h l
  simp only [List.filter_cons]
  by_cases c : x = a
  ·subst c; simp only [h1, h2, if_true, List.length_cons]; simp; omega
  ·have ih2 := B3y h h1 h2 (List.mem_of_ne_of_mem c hx)
   cases hg : g a with
   | true => simp only [h a hg, if_true, List.length_cons]; omega
   | false => cases f a <;> simp <;> omega
def wgt (N : Nat) : Option Stt → Nat
 | none => N + 1
 | some s => C7A N s.set
def mu (N n : Nat) (M : Nat → Option Stt) : Nat := ((List.range n).map fun a => wgt N (M a)).sum
theorem C2s {f g : Nat → Nat} (h : ∀ x, g x ≤ f x) : ∀ l : List Nat, (l.map g).sum ≤ (l.map f).sum
 | [] => Nat.le_refl _
 | x :: l => by have := C2s h l; have := h x; simp only [List.map_cons, List.sum_cons]; omega
theorem C0W {f g : Nat → Nat} (h : ∀ x, g x ≤ f x) {x : Nat} (hx : g x < f x) : ∀ {l : List Nat}, x ∈ l → (l.map g).sum < (l.map f).sum
 | a :: l, hm => by
  have ih := C2s h l
  have ha := h a
  simp only [List.map_cons, List.sum_cons]
  by_cases c : x = a
  ·subst c; omega
  ·have := C0W h hx (List.mem_of_ne_of_mem c hm)
   omega
theorem C4A {N n : Nat} {M : Nat → Option Stt} {b : Nat} {s : Stt} (hb : b < n) (h : wgt N (some s) < wgt N (M b)) : mu N n (J4 M b s) < mu N n M := by
 refine C0W (x := b) (fun x => ?_) (by simpa [J4] using h) (List.mem_range.2 hb)
 unfold J4
 by_cases c : x = b
 ·subst c; rw [if_pos rfl]; exact Nat.le_of_lt h
 ·rw [if_neg c]; exact Nat.le_refl _
theorem C6E {N n : Nat} {M : Nat → Option Stt} {b : Nat} {s : Stt} (hb : b < n) (h : M b = none) : mu N n (J4 M b s) < mu N n M :=
 C4A hb (by rw [h]; exact Nat.lt_succ_of_le (C3P _ _))
theorem C3t {N n : Nat} {M : Nat → Option Stt} {b r : Nat} {t o : Stt} (hb : b < n) (h : M b = some t) (hr : r < N) (h1 : t.set r = true) (h2 : o.set r = false) : mu N n (J4 M b (U8 t o)) < mu N n M :=
 C4A hb (by
  rw [h]
  exact B3y (fun r hr => by simp only [U8, Bool.and_eq_true] at hr; exact hr.1) h1 (by simp [U8, h2]) (List.mem_range.2 hr))
theorem B8Y {M : Nat → Option Stt} {b : Nat} {t : Stt} (h : M b = some t) : J4 M b t = M := by
 funext x; unfold J4
 by_cases c : x = b
 ·subst c; rw [if_pos rfl, h]
 ·rw [if_neg c]
theorem B7x {N : Nat} {t o : Stt} (h : ∀ r, r < N → t.set r = true → o.set r = true) (hN : ∀ r, N ≤ r → t.set r = false) : U8 t o = t := by
 have : (fun r => t.set r && o.set r) = t.set := by
  funext r
  cases ht : t.set r with
  | false => rfl
  | true =>
   by_cases c : r < N
   ·rw [h r c ht]; rfl
   ·rw [hN r (by omega)] at ht; cases ht
 unfold U8
 rw [this]
end Go.Proofs.YtilggmmkmegefaaGreatDoor
