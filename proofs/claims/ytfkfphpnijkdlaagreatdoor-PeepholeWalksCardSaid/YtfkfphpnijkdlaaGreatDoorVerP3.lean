/-
 What is accepted, plain. No condition.
-/
import Derived.Test.YtfkfphpnijkdlaaGreatDoorVerT
import Derived.Test.YtfkfphpnijkdlaaGreatDoorVerP1
import Derived.Test.YtfkfphpnijkdlaaGreatDoorFnSW
set_option linter.unusedVariables false
set_option linter.unusedSimpArgs false
set_option maxRecDepth 100000
set_option maxHeartbeats 0
namespace Go.Proofs.YtfkfphpnijkdlaaGreatDoor
open Go.Abs
def upsR (p : Fn) (i : Ins) : List Int := if i.op = 22 then ((((p.protos[i.b.toNat]?).map Fn.ups).getD []).filter Upv.loc).map Upv.idx else []
def rngL (a b : Int) : List Int := if 0 ≤ a then (List.range (b - a).toNat).map fun (k : Nat) => a + (k : Int) else []
def openB (f o : Int) : Bool := decide (0 ≤ f ↔ 0 ≤ o) && decide (f ≤ o)
def readsL (p : Fn) (i : Ins) (s : Stt) : List Int := (reads i).1 ++ rngL (reads i).2 s.opn ++ upsR p i
def readsF (p : Fn) (i : Ins) (s : Stt) : Bool := openB (reads i).2 s.opn && !(readsL p i s).any fun r => !s.set r.toNat
def badE (code : List Ins) (M : Nat → Option Stt) (a : Nat) (i : Ins) (s : Stt) (t : Int) : Bool :=
 match M t.toNat with
 | none => true
 | some o => decide ((writes i).2 ≠ o.opn) || (!decide (effM i s.marks = o.marks) || (decide (t ≤ (a : Int)) && decide ((insAt code t.toNat).op ≠ 29)))
def violF (p : Fn) (M : Nat → Option Stt) (a : Nat) : Bool :=
 match M a with
 | none => false
 | some s =>
  let i := insAt p.code a
  falls i.op && decide ((a : Int) = (p.code.length : Int) - 1) || (!readsF p i s || (decide (i.op = 28) && s.marks.any (fun r => decide (i.a ≤ r)) || (decide (i.op = 17) && decide (0 < s.marks.length) || (nextL p.code a).any (badE p.code M a i s))))
noncomputable def stOf (p : Fn) : Nat → Option Stt := stM p.regs.toNat p.code p.params
noncomputable def firstF (p : Fn) : Int :=
 match (List.range p.code.length).find? (violF p (stOf p)) with
 | some a => (a : Int)
 | none => -1
theorem firstF_none {p : Fn} : firstF p = -1 ↔ ∀ a, a < p.code.length → violF p (stOf p) a = false := by
 unfold firstF
 cases h : (List.range p.code.length).find? (violF p (stOf p)) with
 | none =>
  have := List.find?_eq_none.1 h
  simp only [true_iff]
  intro a ha
  simpa using this a (List.mem_range.2 ha)
 | some a =>
  have h1 := List.find?_some h
  have h2 := List.mem_range.1 (List.mem_of_find?_eq_some h)
  simp only
  constructor
  ·intro h; omega
  ·intro h; rw [h a h2] at h1; cases h1
theorem firstF_or (p : Fn) : firstF p = -1 ∨ 0 ≤ firstF p := by
 unfold firstF
 split
 ·right; omega
 ·left; rfl
mutual
noncomputable def Fn.srch : Fn → List Int → Option (List Int × Int)
 | ⟨a, b, c, d, e, f, g, h, l, j, k⟩, w => if 0 ≤ firstF ⟨a, b, c, d, e, f, g, h, l, j, k⟩ then some (w, firstF ⟨a, b, c, d, e, f, g, h, l, j, k⟩) else Fn.srchs l 0 w
noncomputable def Fn.srchs : List Fn → Nat → List Int → Option (List Int × Int)
 | [], _, _ => none
 | q :: r, n, w => match Fn.srch q (w ++ [(n : Int)]) with
  | some x => some x
  | none => Fn.srchs r (n + 1) w
end
theorem Fn.srch_eq (p : Fn) (w : List Int) : p.srch w = if 0 ≤ firstF p then some (w, firstF p) else Fn.srchs p.protos 0 w := by
 obtain ⟨a, b, c, d, e, f, g, h, i, j, k⟩ := p
 rw [Fn.srch]
theorem Fn.srchs_none (l : List Fn) (h : ∀ q ∈ l, ∀ w, q.srch w = none ↔ ∀ x ∈ q.each, firstF x = -1) : ∀ (n : Nat) (w : List Int), Fn.srchs l n w = none ↔ ∀ x ∈ Fn.eachs l, firstF x = -1 := by
 induction l with
 | nil => intro n w; simp [Fn.srchs, Fn.eachs]
 | cons q r ih =>
  intro n w
  have h1 := h q List.mem_cons_self (w ++ [(n : Int)])
  have h2 := ih (fun q hq => h q (List.mem_cons_of_mem _ hq)) (n + 1) w
  rw [Fn.srchs, Fn.eachs]
  cases hs : Fn.srch q (w ++ [(n : Int)]) with
  | some x =>
   rw [hs] at h1
   simp only
   constructor
   ·intro h; cases h
   ·intro h; exact h1.2 fun x hx => h x (List.mem_append_left _ hx)
  | none =>
   rw [hs] at h1
   simp only
   rw [h2]
   constructor
   ·intro h x hx
    rcases List.mem_append.1 hx with hx | hx
    ·exact h1.1 rfl x hx
    ·exact h x hx
   ·intro h x hx; exact h x (List.mem_append_right _ hx)
theorem Fn.srch_none (p : Fn) : ∀ w, p.srch w = none ↔ ∀ x ∈ p.each, firstF x = -1 := by
 induction p using Fn.ind with
 | h p ih =>
  intro w
  rw [Fn.srch_eq, Fn.each_eq]
  have := Fn.srchs_none p.protos ih 0 w
  by_cases c : 0 ≤ firstF p
  ·rw [if_pos c]
   constructor
   ·intro h; cases h
   ·intro h; have := h p List.mem_cons_self; omega
  ·rw [if_neg c, this]
   have c1 : firstF p = -1 := (firstF_or p).elim id fun h => absurd h c
   constructor
   ·intro h x hx
    rcases List.mem_cons.1 hx with rfl | hx
    ·exact c1
    ·exact h x hx
   ·intro h x hx; exact h x (List.mem_cons_of_mem _ hx)
noncomputable def verE (p : Fn) : Int := if chkE p ≠ 0 then chkE p else if p.srch [] = none then 0 else 21
theorem verE_iff (p : Fn) : verE p = 0 ↔ chkE p = 0 ∧ ∀ x ∈ p.each, firstF x = -1 := by
 unfold verE
 by_cases c : chkE p = 0
 ·rw [if_neg (fun h => h c)]
  by_cases d : p.srch [] = none
  ·rw [if_pos d]; exact ⟨fun _ => ⟨c, (Fn.srch_none p []).1 d⟩, fun _ => rfl⟩
  ·rw [if_neg d]
   constructor
   ·intro h; omega
   ·intro h; exact absurd ((Fn.srch_none p []).2 h.2) d
 ·rw [if_pos c]
  constructor
  ·intro h; exact absurd h c
  ·intro h; exact absurd h.1 c
structure Sound (p : Fn) : Prop where
 code : p.code.length ≤ 16384
 code0 : 0 < p.code.length
 regs : 0 ≤ p.regs ∧ p.regs ≤ 4096
 params : 0 ≤ p.params ∧ p.params ≤ p.regs
 inst : ∀ i ∈ p.code, instE p i = 0
 ups : ∀ q ∈ p.protos, ∀ u ∈ q.ups, u.loc = true → 0 ≤ u.idx ∧ u.idx < p.regs
 upsl : ∀ q ∈ p.protos, q.ups.length ≤ 60
theorem sglE_parts {p : Fn} (h : sglE p = 0) : limE p = 0 ∧ formE p = 0 ∧ (∀ i ∈ p.code, instE p i = 0) ∧ p.protos.any (badQ p) = false := by
 unfold sglE at h
 split at h
 ·rename_i h1; exact absurd h h1
 rename_i h1
 split at h
 ·rename_i h2; exact absurd h h2
 rename_i h2
 split at h
 ·rename_i h3; exact absurd h h3
 rename_i h3
 split at h
 ·omega
 rename_i h4
 refine ⟨by simpa using h1, by simpa using h2, fun i hi => ?_, by simpa using h4⟩
 have h3 : firstNZ (p.code.map (instE p)) = 0 := by simpa using h3
 rw [firstNZ_iff] at h3
 exact h3 _ (List.mem_map_of_mem hi)
theorem Sound.of {p : Fn} (h : chkE p = 0) : Sound p := by
 have hs := ((chkE_iff p).1 h).2
 obtain ⟨l, f, i, q⟩ := sglE_parts (hs p (Fn.self_mem p))
 unfold limE at l
 split at l
 rotate_left
 ·omega
 rename_i L
 unfold formE at f
 split at f
 rotate_left
 ·omega
 rename_i F
 refine ⟨L.1, by omega, ⟨F.2.1, L.2.2.2.2.2.1⟩, ⟨F.2.2.1, F.2.2.2.2.1⟩, i, fun x hx u hu hl => ?_, fun x hx => ?_⟩
 ·obtain ⟨_, f2, _, _⟩ := sglE_parts (hs x (Fn.child_mem (Fn.self_mem p) hx))
  unfold formE at f2
  split at f2
  rotate_left
  ·omega
  rename_i F2
  have h1 := List.any_eq_false.1 F2.2.2.2.2.2.2.2.1 u hu
  have h2 := List.any_eq_false.1 q x hx
  simp only [badQ, Bool.not_eq_true] at h2
  have h3 := List.any_eq_false.1 h2 u hu
  simp only [badU, hl, if_true, decide_eq_true_eq] at h3
  simp at h1
  omega
 ·obtain ⟨l2, _⟩ := sglE_parts (hs x (Fn.child_mem (Fn.self_mem p) hx))
  unfold limE at l2
  split at l2
  ·rename_i L2; exact L2.2.2.2.1
  ·omega
theorem instE_zero {p : Fn} {i : Ins} (h : instE p i = 0) : chk i = 0 ∧ withinB p.regs (reads i) = true ∧ withinB p.regs (writes i) = true ∧ (isJump i.op = true → 0 ≤ i.b ∧ i.b < p.code.length) ∧ refersB p i = true := by
 unfold instE at h
 split at h
 ·rename_i h1; exact absurd h h1
 rename_i h1
 split at h
 ·rename_i h2; exact ⟨by simpa using h1, h2⟩
 ·omega
theorem withinB_of {regs : Int} {l : List Int × Int} (h : withinB regs l = true) : l.2 ≤ regs ∧ ∀ r ∈ l.1, r < regs := by
 unfold withinB at h
 rw [Bool.and_eq_true, Bool.not_eq_true'] at h
 refine ⟨of_decide_eq_true h.1, fun r hr => ?_⟩
 have := List.any_eq_false.1 h.2 r hr
 simp at this; omega
theorem Sound.fit {p : Fn} (h : Sound p) : ∀ i ∈ p.code, Fit p.regs.toNat i := fun i hi => by
 obtain ⟨h1, _, h3, _⟩ := instE_zero (h.inst i hi)
 obtain ⟨w1, w2⟩ := withinB_of h3
 have hr := h.regs
 exact ⟨h1, fun r hr => by have := ((writes_in i).1 r hr).1; have := w2 r hr; omega, by omega⟩
theorem Sound.reads {p : Fn} (h : Sound p) : ∀ i ∈ p.code, ∀ r ∈ (reads i).1, 0 ≤ r ∧ r < p.regs := fun i hi r hr => by
 obtain ⟨_, h2, _⟩ := instE_zero (h.inst i hi)
 exact ⟨((reads_in i).1 r hr).1, (withinB_of h2).2 r hr⟩
theorem Sound.proto {p : Fn} (h : Sound p) {i : Ins} (hi : i ∈ p.code) (ho : i.op = 22) : 0 ≤ i.b ∧ ∃ q, p.protos[i.b.toNat]? = some q := by
 obtain ⟨hk, _, _, _, hr⟩ := instE_zero (h.inst i hi)
 have hb : 0 ≤ i.b := by
  unfold chk at hk
  obtain ⟨op, a, b, c, d⟩ := i
  simp only at hk ho ⊢
  subst ho
  simp [frm, frmN, frmT, isOp, fit1, fit2, low, high, lowT, highT, lastR, mm2] at hk
  omega
 unfold refersB at hr
 split at hr
 ·cases hr
 split at hr
 ·cases hr
 simp [ho] at hr
 exact ⟨hb, p.protos[i.b.toNat]'(by omega), by simp⟩
theorem stepM_mono {N : Nat} {code : List Ins} {M : Nat → Option Stt} {e : Nat × Int} {k : Nat} (h : (M k).isSome = true) : (stepM N code M e k).isSome = true := by
 have hu : ∀ s, (updM M e.2.toNat s k).isSome = true := fun s => by
  unfold updM
  split
  ·rfl
  ·exact h
 cases h1 : M e.1 with
 | none => simp only [stepM, h1]; exact h
 | some o =>
  cases h2 : M e.2.toNat with
  | none => simp only [stepM, h1, h2]; exact hu _
  | some t => simp only [stepM, h1, h2]; exact hu _
theorem foldM_mono {N : Nat} {code : List Ins} : ∀ (l : List (Nat × Int)) {M : Nat → Option Stt} {k : Nat}, (M k).isSome = true → (l.foldl (stepM N code) M k).isSome = true
 | [], _, _, h => h
 | e :: l, _, _, h => foldM_mono l (stepM_mono h)
theorem stepM_to {N : Nat} {code : List Ins} {M : Nat → Option Stt} {e : Nat × Int} (h : (M e.1).isSome = true) : (stepM N code M e e.2.toNat).isSome = true := by
 obtain ⟨s, hs⟩ := Option.isSome_iff_exists.1 h
 cases h2 : M e.2.toNat with
 | none => simp [stepM, hs, h2, updM]
 | some t => simp [stepM, hs, h2, updM]
theorem roundM_to {N : Nat} {code : List Ins} {M : Nat → Option Stt} {e : Nat × Int} (he : e ∈ edgesL code) (h : (M e.1).isSome = true) : (roundM N code M e.2.toNat).isSome = true := by
 obtain ⟨l, r, hl⟩ := List.append_of_mem he
 unfold roundM
 rw [hl, List.foldl_append, List.foldl_cons]
 exact foldM_mono r (stepM_to (foldM_mono l h))
theorem edges_mem {code : List Ins} {a : Nat} {t : Int} (ha : a < code.length) (ht : t ∈ nextL code a) : (a, t) ∈ edgesL code := by
 simp only [edgesL, List.mem_flatMap, List.mem_range, List.mem_map]
 exact ⟨a, ha, t, ht, rfl⟩
theorem StIs.next {N : Nat} {code : List Ins} {params : Int} {M : Nat → Option Stt} (h : StIs N code params M) {a : Nat} {s : Stt} (ha : a < code.length) (hs : M a = some s) {t : Int} (ht : t ∈ nextL code a) : ∃ o, M t.toNat = some o := by
 obtain ⟨k, _, hf⟩ := h
 have := roundM_to (N := N) (M := M) (edges_mem ha ht) (by rw [hs]; rfl)
 rw [hf] at this
 exact Option.isSome_iff_exists.1 this
theorem fold_ind {N : Nat} {code : List Ins} {P : (Nat → Option Stt) → Prop} (hs : ∀ M e, e ∈ edgesL code → P M → P (stepM N code M e)) : ∀ (l : List (Nat × Int)), (∀ e ∈ l, e ∈ edgesL code) → ∀ M, P M → P (l.foldl (stepM N code) M)
 | [], _, _, h => h
 | e :: l, hl, M, h => fold_ind hs l (fun x hx => hl x (List.mem_cons_of_mem _ hx)) _ (hs M e (hl e List.mem_cons_self) h)
theorem iter_ind {N : Nat} {code : List Ins} {params : Int} {P : (Nat → Option Stt) → Prop} (h0 : P (M0 N params)) (hs : ∀ M e, e ∈ edgesL code → P M → P (stepM N code M e)) : ∀ j, P (iterM N code params j)
 | 0 => h0
 | j + 1 => fold_ind hs _ (fun _ h => h) _ (iter_ind h0 hs j)
theorem StIs.ind {N : Nat} {code : List Ins} {params : Int} {M : Nat → Option Stt} (h : StIs N code params M) {P : (Nat → Option Stt) → Prop} (h0 : P (M0 N params)) (hs : ∀ M e, e ∈ edgesL code → P M → P (stepM N code M e)) : P M := by
 obtain ⟨k, rfl, _⟩ := h
 exact iter_ind h0 hs k
theorem stepM_cases {N : Nat} {code : List Ins} {M : Nat → Option Stt} {e : Nat × Int} {k : Nat} {s : Stt} (h : stepM N code M e k = some s) :
  M k = some s ∨ (∃ o, M e.1 = some o ∧ k = e.2.toNat ∧ M k = none ∧ s = passF N (insAt code e.1) e.1 e.2 o) ∨ (∃ o t, M e.1 = some o ∧ k = e.2.toNat ∧ M k = some t ∧ s = joinF t (passF N (insAt code e.1) e.1 e.2 o)) := by
 cases h1 : M e.1 with
 | none => simp only [stepM, h1] at h; exact .inl h
 | some o =>
  cases h2 : M e.2.toNat with
  | none =>
   simp only [stepM, h1, h2, updM] at h
   by_cases hk : k = e.2.toNat
   ·rw [if_pos hk] at h
    exact .inr (.inl ⟨o, rfl, hk, hk ▸ h2, (Option.some.inj h).symm⟩)
   ·rw [if_neg hk] at h; exact .inl h
  | some t =>
   simp only [stepM, h1, h2, updM] at h
   by_cases hk : k = e.2.toNat
   ·rw [if_pos hk] at h
    exact .inr (.inr ⟨o, t, rfl, hk, hk ▸ h2, (Option.some.inj h).symm⟩)
   ·rw [if_neg hk] at h; exact .inl h
theorem insAt_mem {code : List Ins} {a : Nat} (h : a < code.length) : code[a]? = some (insAt code a) ∧ insAt code a ∈ code := by
 have h1 : code[a]? = some (insAt code a) := by unfold insAt; rw [List.getD_eq_getElem?_getD, List.getElem?_eq_getElem h]; rfl
 exact ⟨h1, List.mem_of_getElem? h1⟩
theorem StIs.opn {N : Nat} {code : List Ins} {params : Int} {M : Nat → Option Stt} (h : StIs N code params M) (hf : ∀ i ∈ code, Fit N i) : ∀ k s, M k = some s → s.opn ≤ N := by
 refine h.ind (P := fun M => ∀ k s, M k = some s → s.opn ≤ N) ?_ ?_
 ·intro k s hs
  unfold M0 at hs
  split at hs
  ·injection hs with hs; subst hs; simp only [entF]; omega
  ·cases hs
 ·intro M e he hP k s hs
  rcases stepM_cases hs with h | ⟨o, ho, _, _, rfl⟩ | ⟨o, t, ho, _, ht, rfl⟩
  ·exact hP k s h
  ·rw [passF_opn]; exact (hf _ (insAt_mem (edges_in he).1).2).wo
  ·exact hP k t ht
theorem StIs.zero {N : Nat} {code : List Ins} {params : Int} {M : Nat → Option Stt} (h : StIs N code params M) : ∃ o, M 0 = some o ∧ o.marks = [] := by
 refine h.ind (P := fun M => ∃ o, M 0 = some o ∧ o.marks = []) ⟨entF N params, rfl, rfl⟩ ?_
 rintro M e he ⟨o, ho, hm⟩
 have := stepM_mono (N := N) (code := code) (e := e) (show (M 0).isSome = true by rw [ho]; rfl)
 obtain ⟨s, hs⟩ := Option.isSome_iff_exists.1 this
 refine ⟨s, hs, ?_⟩
 rcases stepM_cases hs with h | ⟨o2, _, _, hn, rfl⟩ | ⟨o2, t, _, _, ht, rfl⟩
 ·rw [ho] at h; injection h with h; rw [← h]; exact hm
 ·rw [ho] at hn; cases hn
 ·rw [ho] at ht; injection ht with ht; rw [← ht]; exact hm
def GoodM (N : Nat) (m : List Int) : Prop := Asc m ∧ ∀ r ∈ m, 0 ≤ r ∧ r < N
theorem violF_no {p : Fn} {M : Nat → Option Stt} {a : Nat} {s : Stt} (h : violF p M a = false) (hs : M a = some s) :
  (falls (insAt p.code a).op = true → (a : Int) ≠ (p.code.length : Int) - 1) ∧ readsF p (insAt p.code a) s = true ∧ ((insAt p.code a).op = 28 → ∀ r ∈ s.marks, r < (insAt p.code a).a) ∧ ((insAt p.code a).op = 17 → s.marks = []) ∧
  ∀ t ∈ nextL p.code a, ∃ o, M t.toNat = some o ∧ (writes (insAt p.code a)).2 = o.opn ∧ effM (insAt p.code a) s.marks = o.marks ∧ (t ≤ (a : Int) → (insAt p.code t.toNat).op = 29) := by
 unfold violF at h
 rw [hs] at h
 simp only [Bool.or_eq_false_iff, Bool.and_eq_false_iff, Bool.not_eq_false'] at h
 obtain ⟨h1, h2, h3, h4, h5⟩ := h
 refine ⟨fun hf => ?_, h2, fun ho r hr => ?_, fun ho => ?_, fun t ht => ?_⟩
 ·rcases h1 with h1 | h1
  ·rw [hf] at h1; cases h1
  ·exact of_decide_eq_false h1
 ·rcases h3 with h3 | h3
  ·exact absurd ho (of_decide_eq_false h3)
  ·have := List.any_eq_false.1 h3 r hr
   simp at this; omega
 ·rcases h4 with h4 | h4
  ·exact absurd ho (of_decide_eq_false h4)
  ·have := of_decide_eq_false h4
   exact List.length_eq_zero_iff.1 (by omega)
 ·have := List.any_eq_false.1 h5 t ht
  unfold badE at this
  split at this
  ·simp at this
  ·rename_i o ho
   refine ⟨o, ho, ?_⟩
   simp only [Bool.or_eq_true, Bool.and_eq_true, Bool.not_eq_true', decide_eq_true_eq, decide_eq_false_iff_not, not_or, not_and, Decidable.not_not] at this
   exact this
theorem GoodM.at {N : Nat} {m : List Int} (h : GoodM N m) {i : Nat} {x : Int} (hx : m[i]? = some x) : 0 ≤ x ∧ x < N ∧ ∀ y, 0 < i → m[i - 1]? = some y → y < x := by
 refine ⟨(h.2 x (List.mem_of_getElem? hx)).1, (h.2 x (List.mem_of_getElem? hx)).2, fun y hi hy => ?_⟩
 obtain ⟨h1, rfl⟩ := List.getElem?_eq_some_iff.1 hx
 obtain ⟨h2, rfl⟩ := List.getElem?_eq_some_iff.1 hy
 exact List.pairwise_iff_getElem.1 h.1 (i - 1) i h2 h1 (by omega)
end Go.Proofs.YtfkfphpnijkdlaaGreatDoor
