/-
 The states of the verifier, as lists and functions: rows of truth values, maps with numbers as keys, the effect of an instruction. No condition.
-/
import Derived.Test.YtfkfphpnijkdlaaGreatDoorRwM
import Derived.Test.YtfkfphpnijkdlaaGreatDoorRchM
import Derived.Test.YtfkfphpnijkdlaaGreatDoorUtl
set_option linter.unusedVariables false
set_option linter.unusedSimpArgs false
set_option maxRecDepth 100000
namespace Go.Proofs.YtfkfphpnijkdlaaGreatDoor
open Go.Abs
theorem rowszP {α : Type} (f : α → List V) (sz : Nat) (h : ∀ x, (f x).length = sz) (l : List α) : rowsz (l.map f) sz = True := eq_true fun r hr => by obtain ⟨y, _, rfl⟩ := List.mem_map.1 hr; exact h y
def boolR (N : Nat) (f : Nat → Bool) : List (List V) := (List.range N).map fun r => [.bool (f r)]
theorem boolR_len (N : Nat) (f : Nat → Bool) : (boolR N f).length = N := by simp [boolR]
theorem boolR_at {N r : Nat} {f : Nat → Bool} (h : r < N) : (boolR N f)[r]? = some [.bool (f r)] := by simp [boolR, h]
theorem boolR_none (N : Nat) : boolR N (fun _ => false) = List.replicate N [.bool false] := by
 unfold boolR; rw [List.map_const']; simp
theorem boolR_congr {N : Nat} {f g : Nat → Bool} (h : ∀ r, r < N → f r = g r) : boolR N f = boolR N g :=
 List.map_congr_left fun r hr => by rw [h r (List.mem_range.1 hr)]
theorem boolR_set {N r : Nat} {f : Nat → Bool} {b : Bool} (g : Nat → Bool) (hg : ∀ x, x < N → g x = if x = r then b else f x) : (boolR N f).set r [.bool b] = boolR N g := by
 refine List.ext_getElem? fun j => ?_
 rw [List.getElem?_set, boolR_len]
 by_cases hj : j < N
 ·rw [boolR_at hj, boolR_at hj, hg j hj]
  by_cases d : r = j
  ·subst d; simp [hj]
  ·rw [if_neg d, if_neg (Ne.symm d)]
 ·rw [List.getElem?_eq_none (by rw [boolR_len]; omega), List.getElem?_eq_none (by rw [boolR_len]; omega)]
  split
  ·rw [if_neg (by omega)]
  ·rfl
theorem boolR_sz (N : Nat) (f : Nat → Bool) : rowsz (boolR N f) 1 = True := eq_true fun r hr => by obtain ⟨i, _, rfl⟩ := List.mem_map.1 hr; rfl
theorem boolR_sub (φ : Nat → Nat → Nat → Nat → V) (N : Nat) (f : Nat → Bool) : (boolR N f).map (fun r => r.map (V.sub φ)) = boolR N f := by
 unfold boolR; rw [List.map_map]; exact List.map_congr_left fun y _ => by simp [V.sub]
theorem boolR_flat (N : Nat) (f : Nat → Bool) : ∀ r ∈ boolR N f, flatL r = true := fun r hr => by obtain ⟨i, _, rfl⟩ := List.mem_map.1 hr; rfl
theorem zrw_flat (l : List Int) : ∀ r ∈ l.map zrw, flatL r = true := fun r hr => by obtain ⟨i, _, rfl⟩ := List.mem_map.1 hr; rfl
theorem zrw_sub (φ : Nat → Nat → Nat → Nat → V) (l : List Int) : (l.map zrw).map (fun r => r.map (V.sub φ)) = l.map zrw := by
 rw [List.map_map]; exact List.map_congr_left fun y _ => by simp [zrw, V.sub]
def mapE (l : List Nat) (F : Nat → V) : List (V × V) := l.map fun k => (.int .i64 (k : Nat), F k)
theorem mapE_keys (l : List Nat) (F : Nat → V) : IntKeys (mapE l F) := fun e he => by obtain ⟨k, _, rfl⟩ := List.mem_map.1 he; exact ⟨k, rfl⟩
theorem mapE_find (F : Nat → V) (k : Nat) : ∀ l : List Nat, mfind (.int .i64 (k : Nat)) (mapE l F) = if k ∈ l then some (F k) else none
 | [] => rfl
 | a :: l => by
  have ih := mapE_find F k l
  simp only [mapE, List.map_cons, mfind, keyEq_int, Option.getD_some] at ih ⊢
  by_cases c : k = a
  ·subst c; simp
  ·have : ¬ ((k : Int) = (a : Int)) := by omega
   simp only [this, decide_false, cond_false, ih, List.mem_cons, c, false_or]
theorem mapE_yes {F : Nat → V} {k : Nat} {l : List Nat} (h : k ∈ l) : mfind (.int .i64 (k : Nat)) (mapE l F) = some (F k) := by rw [mapE_find, if_pos h]
theorem mapE_no {F : Nat → V} {k : Nat} {l : List Nat} (h : k ∉ l) : mfind (.int .i64 (k : Nat)) (mapE l F) = none := by rw [mapE_find, if_neg h]
theorem mapE_new {F G : Nat → V} {k : Nat} {v : V} : ∀ {l : List Nat}, k ∉ l → (∀ x ∈ l, G x = F x) → G k = v → mset (.int .i64 (k : Nat)) v (mapE l F) = mapE (l ++ [k]) G
 | [], _, _, hv => by simp [mapE, mset, hv]
 | a :: l, hk, hg, hv => by
  have ih := mapE_new (F := F) (G := G) (v := v) (l := l) (fun h => hk (List.mem_cons_of_mem _ h)) (fun x hx => hg x (List.mem_cons_of_mem _ hx)) hv
  have : ¬ ((k : Int) = (a : Int)) := fun e => hk (by rw [show k = a by omega]; exact List.mem_cons_self)
  simp only [mapE, List.map_cons, mset, keyEq_int, Option.getD_some, this, decide_false, cond_false, List.cons_append, List.map_append] at ih ⊢
  rw [ih, hg a List.mem_cons_self]
theorem mapE_congr {F G : Nat → V} {l : List Nat} (h : ∀ x ∈ l, F x = G x) : mapE l F = mapE l G := List.map_congr_left fun x hx => by rw [h x hx]
def famL (F : Nat → List (List V)) (S : Nat → Nat) (l : List Nat) : Heap := l.map (famE F S)
theorem famL_mem {F : Nat → List (List V)} {S : Nat → Nat} {l : List Nat} {e : Nat × Nat × Blk} : e ∈ famL F S l ↔ ∃ i, i ∈ l ∧ famE F S i = e := by simp only [famL, List.mem_map]
theorem famL_get {F : Nat → List (List V)} {S : Nat → Nat} {i : Nat} : ∀ {l : List Nat}, i ∈ l → Heap.get (famL F S l) (1000000000000 + i) (S i) = some (.rows 1 (F i))
 | a :: l, h => by
  simp only [famL, List.map_cons, famE, Heap.get]
  by_cases c : a = i
  ·subst c; simp
  ·have : Nat.beq (1000000000000 + a) (1000000000000 + i) = false := by
    cases hb : Nat.beq (1000000000000 + a) (1000000000000 + i) with
    | false => rfl
    | true => have := Nat.eq_of_beq_eq_true hb; omega
   rw [this, cond_false]
   exact famL_get (List.mem_of_ne_of_mem (Ne.symm c) h)
theorem famL_del {F : Nat → List (List V)} {S : Nat → Nat} {l : List Nat} {b : Nat} (h : b < 1000000000000) : Heap.del (famL F S l) b = famL F S l := by
 refine List.filter_eq_self.2 fun e he => ?_
 obtain ⟨j, hj, rfl⟩ := famL_mem.1 he
 simp only [famE, beq_fam' h, Bool.not_false]
structure Stt where
 set : Nat → Bool
 opn : Int
 marks : List Int
def effS (i : Ins) (f : Nat → Bool) : Nat → Bool := if i.op = 16 then fun r => f r && decide ((r : Int) < i.a) else if i.op = 25 then fun r => f r && decide ((r : Int) < i.a + 3) else f
def effM (i : Ins) (m : List Int) : List Int := if i.op = 28 then m ++ [i.a] else if i.op = 27 then m.filter (fun r => decide (r < i.a)) else m
def effW (N : Nat) (w : List Int × Int) (f : Nat → Bool) : Nat → Bool := fun r => decide (r < N) && ((f r || w.1.contains (r : Int)) && (decide (w.2 < 0) || decide ((r : Int) < w.2)))
def effF (N : Nat) (i : Ins) (s : Stt) : Stt := ⟨effW N (writes i) (effS i s.set), (writes i).2, effM i s.marks⟩
def endsB (i : Ins) (a b : Int) : Bool := decide (i.op = 23 ∧ b = i.b) || decide (i.op = 24 ∧ (b ≠ i.b ∨ i.b = a + 1))
def passF (N : Nat) (i : Ins) (a b : Int) (s : Stt) : Stt :=
 if endsB i a b = true ∧ s.set (i.a + 3).toNat = false then ⟨fun r => (effF N i s).set r && decide ((r : Int) ≠ i.a + 3), (effF N i s).opn, (effF N i s).marks⟩ else effF N i s
theorem passF_opn (N : Nat) (i : Ins) (a b : Int) (s : Stt) : (passF N i a b s).opn = (writes i).2 := by unfold passF; split <;> rfl
theorem passF_marks (N : Nat) (i : Ins) (a b : Int) (s : Stt) : (passF N i a b s).marks = effM i s.marks := by unfold passF; split <;> rfl
theorem passF_out {N : Nat} {i : Ins} {a b : Int} {s : Stt} {r : Nat} (h : N ≤ r) : (passF N i a b s).set r = false := by
 have : ¬ r < N := by omega
 unfold passF; split <;> simp [effF, effW, this]
def joinF (t o : Stt) : Stt := ⟨fun r => t.set r && o.set r, t.opn, t.marks⟩
def insAt (code : List Ins) (a : Nat) : Ins := code.getD a default
def entF (N : Nat) (params : Int) : Stt := ⟨fun r => decide (r < N) && decide ((r : Int) < params), -1, []⟩
def M0 (N : Nat) (params : Int) : Nat → Option Stt := fun a => if a = 0 then some (entF N params) else none
def updM (M : Nat → Option Stt) (b : Nat) (s : Stt) : Nat → Option Stt := fun x => if x = b then some s else M x
def stepM (N : Nat) (code : List Ins) (M : Nat → Option Stt) (e : Nat × Int) : Nat → Option Stt :=
 match M e.1 with
 | none => M
 | some s => match M e.2.toNat with
  | none => updM M e.2.toNat (passF N (insAt code e.1) e.1 e.2 s)
  | some t => updM M e.2.toNat (joinF t (passF N (insAt code e.1) e.1 e.2 s))
def edgesL (code : List Ins) : List (Nat × Int) := (List.range code.length).flatMap fun (a : Nat) => (nextL code a).map fun (b : Int) => (a, b)
def erow (e : Nat × Int) : List V := [.int .i64 (e.1 : Nat), .int .i64 e.2]
theorem edges_in {code : List Ins} {e : Nat × Int} (h : e ∈ edgesL code) : e.1 < code.length ∧ e.2 ∈ nextL code e.1 ∧ 0 ≤ e.2 ∧ e.2 < code.length := by
 simp only [edgesL, List.mem_flatMap, List.mem_range, List.mem_map] at h
 obtain ⟨a, ha, b, hb, rfl⟩ := h
 exact ⟨ha, hb, nextL_in hb⟩
def roundM (N : Nat) (code : List Ins) (M : Nat → Option Stt) : Nat → Option Stt := (edgesL code).foldl (stepM N code) M
def iterM (N : Nat) (code : List Ins) (params : Int) : Nat → (Nat → Option Stt)
 | 0 => M0 N params
 | k + 1 => roundM N code (iterM N code params k)
def StIs (N : Nat) (code : List Ins) (params : Int) (M : Nat → Option Stt) : Prop := ∃ k, M = iterM N code params k ∧ roundM N code M = M
theorem iter_fix {N : Nat} {code : List Ins} {params : Int} {k : Nat} (h : roundM N code (iterM N code params k) = iterM N code params k) : ∀ j, iterM N code params (k + j) = iterM N code params k
 | 0 => rfl
 | j + 1 => by rw [← Nat.add_assoc, iterM, iter_fix h j, h]
theorem StIs.unique {N : Nat} {code : List Ins} {params : Int} {M M' : Nat → Option Stt} (h : StIs N code params M) (h' : StIs N code params M') : M = M' := by
 obtain ⟨k, rfl, h1⟩ := h
 obtain ⟨j, rfl, h2⟩ := h'
 rcases Nat.le_total k j with c | c
 ·obtain ⟨d, rfl⟩ := Nat.le.dest c
  exact (iter_fix h1 d).symm
 ·obtain ⟨d, rfl⟩ := Nat.le.dest c
  exact iter_fix h2 d
open Classical in
noncomputable def stM (N : Nat) (code : List Ins) (params : Int) : Nat → Option Stt := if h : ∃ M, StIs N code params M then h.choose else M0 N params
theorem stM_eq {N : Nat} {code : List Ins} {params : Int} {M : Nat → Option Stt} (h : StIs N code params M) : M = stM N code params := by
 unfold stM
 rw [dif_pos ⟨M, h⟩]
 exact h.unique (Exists.choose_spec ⟨M, h⟩)
def cntB (N : Nat) (f : Nat → Bool) : Nat := ((List.range N).filter f).length
theorem cntB_le (N : Nat) (f : Nat → Bool) : cntB N f ≤ N := by unfold cntB; exact Nat.le_trans (List.length_filter_le _ _) (by simp)
theorem filter_le {f g : Nat → Bool} (h : ∀ r, g r = true → f r = true) : ∀ l : List Nat, (l.filter g).length ≤ (l.filter f).length
 | [] => Nat.le_refl _
 | x :: l => by
  have ih := filter_le h l
  simp only [List.filter_cons]
  cases hg : g x with
  | true => simp only [h x hg, if_true, List.length_cons]; omega
  | false =>
   cases f x <;> simp <;> omega
theorem filter_lt {f g : Nat → Bool} (h : ∀ r, g r = true → f r = true) {x : Nat} (h1 : f x = true) (h2 : g x = false) : ∀ {l : List Nat}, x ∈ l → (l.filter g).length < (l.filter f).length
 | a :: l, hx => by
  have ih := filter_le h l
  simp only [List.filter_cons]
  by_cases c : x = a
  ·subst c; simp only [h1, h2, if_true, List.length_cons]; simp; omega
  ·have ih2 := filter_lt h h1 h2 (List.mem_of_ne_of_mem c hx)
   cases hg : g a with
   | true => simp only [h a hg, if_true, List.length_cons]; omega
   | false => cases f a <;> simp <;> omega
def wgt (N : Nat) : Option Stt → Nat
 | none => N + 1
 | some s => cntB N s.set
def mu (N n : Nat) (M : Nat → Option Stt) : Nat := ((List.range n).map fun a => wgt N (M a)).sum
theorem sum_le {f g : Nat → Nat} (h : ∀ x, g x ≤ f x) : ∀ l : List Nat, (l.map g).sum ≤ (l.map f).sum
 | [] => Nat.le_refl _
 | x :: l => by have := sum_le h l; have := h x; simp only [List.map_cons, List.sum_cons]; omega
theorem sum_lt {f g : Nat → Nat} (h : ∀ x, g x ≤ f x) {x : Nat} (hx : g x < f x) : ∀ {l : List Nat}, x ∈ l → (l.map g).sum < (l.map f).sum
 | a :: l, hm => by
  have ih := sum_le h l
  have ha := h a
  simp only [List.map_cons, List.sum_cons]
  by_cases c : x = a
  ·subst c; omega
  ·have := sum_lt h hx (List.mem_of_ne_of_mem c hm)
   omega
theorem mu_lt {N n : Nat} {M : Nat → Option Stt} {b : Nat} {s : Stt} (hb : b < n) (h : wgt N (some s) < wgt N (M b)) : mu N n (updM M b s) < mu N n M := by
 refine sum_lt (x := b) (fun x => ?_) (by simpa [updM] using h) (List.mem_range.2 hb)
 unfold updM
 by_cases c : x = b
 ·subst c; rw [if_pos rfl]; exact Nat.le_of_lt h
 ·rw [if_neg c]; exact Nat.le_refl _
theorem mu_new {N n : Nat} {M : Nat → Option Stt} {b : Nat} {s : Stt} (hb : b < n) (h : M b = none) : mu N n (updM M b s) < mu N n M :=
 mu_lt hb (by rw [h]; exact Nat.lt_succ_of_le (cntB_le _ _))
theorem mu_join {N n : Nat} {M : Nat → Option Stt} {b r : Nat} {t o : Stt} (hb : b < n) (h : M b = some t) (hr : r < N) (h1 : t.set r = true) (h2 : o.set r = false) : mu N n (updM M b (joinF t o)) < mu N n M :=
 mu_lt hb (by
  rw [h]
  exact filter_lt (fun r hr => by simp only [joinF, Bool.and_eq_true] at hr; exact hr.1) h1 (by simp [joinF, h2]) (List.mem_range.2 hr))
theorem updM_same {M : Nat → Option Stt} {b : Nat} {t : Stt} (h : M b = some t) : updM M b t = M := by
 funext x; unfold updM
 by_cases c : x = b
 ·subst c; rw [if_pos rfl, h]
 ·rw [if_neg c]
theorem joinF_same {N : Nat} {t o : Stt} (h : ∀ r, r < N → t.set r = true → o.set r = true) (hN : ∀ r, N ≤ r → t.set r = false) : joinF t o = t := by
 have : (fun r => t.set r && o.set r) = t.set := by
  funext r
  cases ht : t.set r with
  | false => rfl
  | true =>
   by_cases c : r < N
   ·rw [h r c ht]; rfl
   ·rw [hN r (by omega)] at ht; cases ht
 unfold joinF
 rw [this]
end Go.Proofs.YtfkfphpnijkdlaaGreatDoor
