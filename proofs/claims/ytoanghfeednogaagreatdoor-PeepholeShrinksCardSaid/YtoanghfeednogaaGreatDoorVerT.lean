/-
 The states of the verifier, as lists and functions: rows of truth values, maps with numbers as keys, the effect of an instruction. No condition.
-/
import Derived.Test.YtoanghfeednogaaGreatDoorRwM
import Derived.Test.YtoanghfeednogaaGreatDoorRchM
import Derived.Test.YtoanghfeednogaaGreatDoorUtl
set_option linter.unusedVariables false
set_option linter.unusedSimpArgs false
set_option maxRecDepth 100000
namespace Go.Proofs.YtoanghfeednogaaGreatDoor
open Go.Abs
theorem B9c {α : Type} (f : α → List V) (sz : Nat) (h : ∀ x, (f x).length = sz) (l : List α) : B6 (l.map f) sz = True := eq_true fun r hr => by obtain ⟨y, _, rfl⟩ := List.mem_map.1 hr; exact h y
def B4 (N : Nat) (f : Nat → Bool) : List (List V) := (List.range N).map fun r => [.bool (f r)]
theorem G4 (N : Nat) (f : Nat → Bool) : (B4 N f).length = N := by simp [B4]
theorem V4 {N r : Nat} {f : Nat → Bool} (h : r < N) : (B4 N f)[r]? = some [.bool (f r)] := by simp [B4, h]
theorem B7Y (N : Nat) : B4 N (fun _ => false) = List.replicate N [.bool false] := by
 unfold B4; rw [List.map_const']; simp
theorem H7 {N : Nat} {f g : Nat → Bool} (h : ∀ r, r < N → f r = g r) : B4 N f = B4 N g :=
 List.map_congr_left fun r hr => by rw [h r (List.mem_range.1 hr)]
theorem A2D {N r : Nat} {f : Nat → Bool} {b : Bool} (g : Nat → Bool) (hg : ∀ x, x < N → g x = if x = r then b else f x) : (B4 N f).set r [.bool b] = B4 N g := by
 refine List.ext_getElem? fun j => ?_
 rw [List.getElem?_set, G4]
 by_cases hj : j < N
 ·rw [V4 hj, V4 hj, hg j hj]
  by_cases d : r = j
  ·subst d; simp [hj]
  ·rw [if_neg d, if_neg (Ne.symm d)]
 ·rw [List.getElem?_eq_none (by rw [G4]; omega), List.getElem?_eq_none (by rw [G4]; omega)]
  split
  ·rw [if_neg (by omega)]
  ·rfl
theorem Z1 (N : Nat) (f : Nat → Bool) : B6 (B4 N f) 1 = True := eq_true fun r hr => by obtain ⟨i, _, rfl⟩ := List.mem_map.1 hr; rfl
theorem A2E (φ : Nat → Nat → Nat → Nat → V) (N : Nat) (f : Nat → Bool) : (B4 N f).map (fun r => r.map (V.sub φ)) = B4 N f := by
 unfold B4; rw [List.map_map]; exact List.map_congr_left fun y _ => by simp [V.sub]
theorem B7X (N : Nat) (f : Nat → Bool) : ∀ r ∈ B4 N f, flatL r = true := fun r hr => by obtain ⟨i, _, rfl⟩ := List.mem_map.1 hr; rfl
theorem C4Q (l : List Int) : ∀ r ∈ l.map zrw, flatL r = true := fun r hr => by obtain ⟨i, _, rfl⟩ := List.mem_map.1 hr; rfl
theorem A0z (φ : Nat → Nat → Nat → Nat → V) (l : List Int) : (l.map zrw).map (fun r => r.map (V.sub φ)) = l.map zrw := by
 rw [List.map_map]; exact List.map_congr_left fun y _ => by simp [zrw, V.sub]
def I7 (l : List Nat) (F : Nat → V) : List (V × V) := l.map fun k => (.int .i64 (k : Nat), F k)
theorem B0A (l : List Nat) (F : Nat → V) : O4 (I7 l F) := fun e he => by obtain ⟨k, _, rfl⟩ := List.mem_map.1 he; exact ⟨k, rfl⟩
theorem B0z (F : Nat → V) (k : Nat) : ∀ l : List Nat, S4 (.int .i64 (k : Nat)) (I7 l F) = if k ∈ l then some (F k) else none
 | [] => rfl
 | a :: l => by
  have ih := B0z F k l
  simp only [I7, List.map_cons, S4, A0B, Option.getD_some] at ih ⊢
  by_cases c : k = a
  ·subst c; simp
  ·have : ¬ ((k : Int) = (a : Int)) := by omega
   simp only [this, decide_false, cond_false, ih, List.mem_cons, c, false_or]
theorem A9s {F : Nat → V} {k : Nat} {l : List Nat} (h : k ∈ l) : S4 (.int .i64 (k : Nat)) (I7 l F) = some (F k) := by rw [B0z, if_pos h]
theorem B5v {F : Nat → V} {k : Nat} {l : List Nat} (h : k ∉ l) : S4 (.int .i64 (k : Nat)) (I7 l F) = none := by rw [B0z, if_neg h]
theorem B6Y {F G : Nat → V} {k : Nat} {v : V} : ∀ {l : List Nat}, k ∉ l → (∀ x ∈ l, G x = F x) → G k = v → A2M (.int .i64 (k : Nat)) v (I7 l F) = I7 (l ++ [k]) G
 | [], _, _, hv => by simp [I7, A2M, hv]
 | a :: l, hk, hg, hv => by
  have ih := B6Y (F := F) (G := G) (v := v) (l := l) (fun h => hk (List.mem_cons_of_mem _ h)) (fun x hx => hg x (List.mem_cons_of_mem _ hx)) hv
  have : ¬ ((k : Int) = (a : Int)) := fun e => hk (by rw [show k = a by omega]; exact List.mem_cons_self)
  simp only [I7, List.map_cons, A2M, A0B, Option.getD_some, this, decide_false, cond_false, List.cons_append, List.map_append] at ih ⊢
  rw [ih, hg a List.mem_cons_self]
theorem A8e {F G : Nat → V} {l : List Nat} (h : ∀ x ∈ l, F x = G x) : I7 l F = I7 l G := List.map_congr_left fun x hx => by rw [h x hx]
def Y7 (F : Nat → List (List V)) (S : Nat → Nat) (l : List Nat) : A0 := l.map (Y6 F S)
theorem t8 {F : Nat → List (List V)} {S : Nat → Nat} {l : List Nat} {e : Nat × Nat × Blk} : e ∈ Y7 F S l ↔ ∃ i, i ∈ l ∧ Y6 F S i = e := by simp only [Y7, List.mem_map]
theorem B6H {F : Nat → List (List V)} {S : Nat → Nat} {i : Nat} : ∀ {l : List Nat}, i ∈ l → A0.get (Y7 F S l) (1000000000000 + i) (S i) = some (.rows 1 (F i))
 | a :: l, h => by
  simp only [Y7, List.map_cons, Y6, A0.get]
  by_cases c : a = i
  ·subst c; simp
  ·have : Nat.beq (1000000000000 + a) (1000000000000 + i) = false := by
    cases hb : Nat.beq (1000000000000 + a) (1000000000000 + i) with
    | false => rfl
    | true => have := Nat.eq_of_beq_eq_true hb; omega
   rw [this, cond_false]
   exact B6H (List.mem_of_ne_of_mem (Ne.symm c) h)
theorem C3h {F : Nat → List (List V)} {S : Nat → Nat} {l : List Nat} {b : Nat} (h : b < 1000000000000) : A0.del (Y7 F S l) b = Y7 F S l := by
 refine List.filter_eq_self.2 fun e he => ?_
 obtain ⟨j, hj, rfl⟩ := t8.1 he
 simp only [Y6, B6b h, Bool.not_false]
structure Stt where
 set : Nat → Bool
 opn : Int
 marks : List Int
def B6A (i : Ins) (f : Nat → Bool) : Nat → Bool := if i.op = 16 then fun r => f r && decide ((r : Int) < i.a) else if i.op = 25 then fun r => f r && decide ((r : Int) < i.a + 3) else f
def V6 (i : Ins) (m : List Int) : List Int := if i.op = 28 then m ++ [i.a] else if i.op = 27 then m.filter (fun r => decide (r < i.a)) else m
def B6B (N : Nat) (w : List Int × Int) (f : Nat → Bool) : Nat → Bool := fun r => decide (r < N) && ((f r || w.1.contains (r : Int)) && (decide (w.2 < 0) || decide ((r : Int) < w.2)))
def B1x (N : Nat) (i : Ins) (s : Stt) : Stt := ⟨B6B N (C4 i) (B6A i s.set), (C4 i).2, V6 i s.marks⟩
def A1K (i : Ins) (a b : Int) : Bool := decide (i.op = 23 ∧ b = i.b) || decide (i.op = 24 ∧ (b ≠ i.b ∨ i.b = a + 1))
def D7 (N : Nat) (i : Ins) (a b : Int) (s : Stt) : Stt :=
 if A1K i a b = true ∧ s.set (i.a + 3).toNat = false then ⟨fun r => (B1x N i s).set r && decide ((r : Int) ≠ i.a + 3), (B1x N i s).opn, (B1x N i s).marks⟩ else B1x N i s
theorem B0G (N : Nat) (i : Ins) (a b : Int) (s : Stt) : (D7 N i a b s).opn = (C4 i).2 := by unfold D7; split <;> rfl
theorem A6c (N : Nat) (i : Ins) (a b : Int) (s : Stt) : (D7 N i a b s).marks = V6 i s.marks := by unfold D7; split <;> rfl
theorem C1A {N : Nat} {i : Ins} {a b : Int} {s : Stt} {r : Nat} (h : N ≤ r) : (D7 N i a b s).set r = false := by
 have : ¬ r < N := by omega
 unfold D7; split <;> simp [B1x, B6B, this]
def X0 (t o : Stt) : Stt := ⟨fun r => t.set r && o.set r, t.opn, t.marks⟩
def R0 (code : List Ins) (a : Nat) : Ins := code.getD a default
def B5h (N : Nat) (params : Int) : Stt := ⟨fun r => decide (r < N) && decide ((r : Int) < params), -1, []⟩
def M0 (N : Nat) (params : Int) : Nat → Option Stt := fun a => if a = 0 then some (B5h N params) else none
def L3 (M : Nat → Option Stt) (b : Nat) (s : Stt) : Nat → Option Stt := fun x => if x = b then some s else M x
def O3 (N : Nat) (code : List Ins) (M : Nat → Option Stt) (e : Nat × Int) : Nat → Option Stt :=
 match M e.1 with
 | none => M
 | some s => match M e.2.toNat with
  | none => L3 M e.2.toNat (D7 N (R0 code e.1) e.1 e.2 s)
  | some t => L3 M e.2.toNat (X0 t (D7 N (R0 code e.1) e.1 e.2 s))
def D3 (code : List Ins) : List (Nat × Int) := (List.range code.length).flatMap fun (a : Nat) => (C2 code a).map fun (b : Int) => (a, b)
def w5 (e : Nat × Int) : List V := [.int .i64 (e.1 : Nat), .int .i64 e.2]
theorem B6y {code : List Ins} {e : Nat × Int} (h : e ∈ D3 code) : e.1 < code.length ∧ e.2 ∈ C2 code e.1 ∧ 0 ≤ e.2 ∧ e.2 < code.length := by
 simp only [D3, List.mem_flatMap, List.mem_range, List.mem_map] at h
 obtain ⟨a, ha, b, hb, rfl⟩ := h
 exact ⟨ha, hb, A2N hb⟩
def A8t (N : Nat) (code : List Ins) (M : Nat → Option Stt) : Nat → Option Stt := (D3 code).foldl (O3 N code) M
def A7v (N : Nat) (code : List Ins) (params : Int) : Nat → (Nat → Option Stt)
 | 0 => M0 N params
 | k + 1 => A8t N code (A7v N code params k)
def A5t (N : Nat) (code : List Ins) (params : Int) (M : Nat → Option Stt) : Prop := ∃ k, M = A7v N code params k ∧ A8t N code M = M
theorem B2H {N : Nat} {code : List Ins} {params : Int} {k : Nat} (h : A8t N code (A7v N code params k) = A7v N code params k) : ∀ j, A7v N code params (k + j) = A7v N code params k
 | 0 => rfl
 | j + 1 => by rw [← Nat.add_assoc, A7v, B2H h j, h]
theorem A5t.unique {N : Nat} {code : List Ins} {params : Int} {M M' : Nat → Option Stt} (h : A5t N code params M) (h' : A5t N code params M') : M = M' := by
 obtain ⟨k, rfl, h1⟩ := h
 obtain ⟨j, rfl, h2⟩ := h'
 rcases Nat.le_total k j with c | c
 ·obtain ⟨d, rfl⟩ := Nat.le.dest c
  exact (B2H h1 d).symm
 ·obtain ⟨d, rfl⟩ := Nat.le.dest c
  exact B2H h2 d
open Classical in
noncomputable def stM (N : Nat) (code : List Ins) (params : Int) : Nat → Option Stt := if h : ∃ M, A5t N code params M then h.choose else M0 N params
theorem C9i {N : Nat} {code : List Ins} {params : Int} {M : Nat → Option Stt} (h : A5t N code params M) : M = stM N code params := by
 unfold stM
 rw [dif_pos ⟨M, h⟩]
 exact h.unique (Exists.choose_spec ⟨M, h⟩)
def C7P (N : Nat) (f : Nat → Bool) : Nat := ((List.range N).filter f).length
theorem C5g (N : Nat) (f : Nat → Bool) : C7P N f ≤ N := by unfold C7P; exact Nat.le_trans (List.length_filter_le _ _) (by simp)
theorem B4i {f g : Nat → Bool} (h : ∀ r, g r = true → f r = true) : ∀ l : List Nat, (l.filter g).length ≤ (l.filter f).length
 | [] => Nat.le_refl _
 | x :: l => by
  have ih := B4i h l
  simp only [List.filter_cons]
  cases hg : g x with
  | true => simp only [h x hg, if_true, List.length_cons]; omega
  | false =>
   cases f x <;> simp <;> omega
theorem B4j {f g : Nat → Bool} (h : ∀ r, g r = true → f r = true) {x : Nat} (h1 : f x = true) (h2 : g x = false) : ∀ {l : List Nat}, x ∈ l → (l.filter g).length < (l.filter f).length
 | a :: l, hx => by
  have ih := B4i h l
  simp only [List.filter_cons]
  by_cases c : x = a
  ·subst c; simp only [h1, h2, if_true, List.length_cons]; simp; omega
  ·have ih2 := B4j h h1 h2 (List.mem_of_ne_of_mem c hx)
   cases hg : g a with
   | true => simp only [h a hg, if_true, List.length_cons]; omega
   | false => cases f a <;> simp <;> omega
def wgt (N : Nat) : Option Stt → Nat
 | none => N + 1
 | some s => C7P N s.set
def mu (N n : Nat) (M : Nat → Option Stt) : Nat := ((List.range n).map fun a => wgt N (M a)).sum
theorem C4C {f g : Nat → Nat} (h : ∀ x, g x ≤ f x) : ∀ l : List Nat, (l.map g).sum ≤ (l.map f).sum
 | [] => Nat.le_refl _
 | x :: l => by have := C4C h l; have := h x; simp only [List.map_cons, List.sum_cons]; omega
theorem C4D {f g : Nat → Nat} (h : ∀ x, g x ≤ f x) {x : Nat} (hx : g x < f x) : ∀ {l : List Nat}, x ∈ l → (l.map g).sum < (l.map f).sum
 | a :: l, hm => by
  have ih := C4C h l
  have ha := h a
  simp only [List.map_cons, List.sum_cons]
  by_cases c : x = a
  ·subst c; omega
  ·have := C4D h hx (List.mem_of_ne_of_mem c hm)
   omega
theorem C6V {N n : Nat} {M : Nat → Option Stt} {b : Nat} {s : Stt} (hb : b < n) (h : wgt N (some s) < wgt N (M b)) : mu N n (L3 M b s) < mu N n M := by
 refine C4D (x := b) (fun x => ?_) (by simpa [L3] using h) (List.mem_range.2 hb)
 unfold L3
 by_cases c : x = b
 ·subst c; rw [if_pos rfl]; exact Nat.le_of_lt h
 ·rw [if_neg c]; exact Nat.le_refl _
theorem C8B {N n : Nat} {M : Nat → Option Stt} {b : Nat} {s : Stt} (hb : b < n) (h : M b = none) : mu N n (L3 M b s) < mu N n M :=
 C6V hb (by rw [h]; exact Nat.lt_succ_of_le (C5g _ _))
theorem C5y {N n : Nat} {M : Nat → Option Stt} {b r : Nat} {t o : Stt} (hb : b < n) (h : M b = some t) (hr : r < N) (h1 : t.set r = true) (h2 : o.set r = false) : mu N n (L3 M b (X0 t o)) < mu N n M :=
 C6V hb (by
  rw [h]
  exact B4j (fun r hr => by simp only [X0, Bool.and_eq_true] at hr; exact hr.1) h1 (by simp [X0, h2]) (List.mem_range.2 hr))
theorem C2n {M : Nat → Option Stt} {b : Nat} {t : Stt} (h : M b = some t) : L3 M b t = M := by
 funext x; unfold L3
 by_cases c : x = b
 ·subst c; rw [if_pos rfl, h]
 ·rw [if_neg c]
theorem B8C {N : Nat} {t o : Stt} (h : ∀ r, r < N → t.set r = true → o.set r = true) (hN : ∀ r, N ≤ r → t.set r = false) : X0 t o = t := by
 have : (fun r => t.set r && o.set r) = t.set := by
  funext r
  cases ht : t.set r with
  | false => rfl
  | true =>
   by_cases c : r < N
   ·rw [h r c ht]; rfl
   ·rw [hN r (by omega)] at ht; cases ht
 unfold X0
 rw [this]
end Go.Proofs.YtoanghfeednogaaGreatDoor
