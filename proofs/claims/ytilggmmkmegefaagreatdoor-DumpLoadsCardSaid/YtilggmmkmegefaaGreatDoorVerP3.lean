/-
 What is accepted, plain. No condition.
-/
import Derived.Test.YtilggmmkmegefaaGreatDoorVerT
import Derived.Test.YtilggmmkmegefaaGreatDoorVerP1
import Derived.Test.YtilggmmkmegefaaGreatDoorFnSW
set_option linter.unusedVariables false
set_option linter.unusedSimpArgs false
set_option maxRecDepth 100000
set_option maxHeartbeats 0
namespace Go.Proofs.YtilggmmkmegefaaGreatDoor
open Go.Abs
def C2N (p : Fn) (i : Ins) : List Int := if i.op = 22 then ((((p.protos[i.b.toNat]?).map Fn.ups).getD []).filter Upv.loc).map Upv.idx else []
def A8p (a b : Int) : List Int := if 0 ≤ a then (List.range (b - a).toNat).map fun (k : Nat) => a + (k : Int) else []
def A2i (f o : Int) : Bool := decide (0 ≤ f ↔ 0 ≤ o) && decide (f ≤ o)
def A5a (p : Fn) (i : Ins) (s : Stt) : List Int := (reads i).1 ++ A8p (reads i).2 s.opn ++ C2N p i
def A3T (p : Fn) (i : Ins) (s : Stt) : Bool := A2i (reads i).2 s.opn && !(A5a p i s).any fun r => !s.set r.toNat
def C0y (code : List Ins) (M : Nat → Option Stt) (a : Nat) (i : Ins) (s : Stt) (t : Int) : Bool :=
 match M t.toNat with
 | none => true
 | some o => decide ((D3 i).2 ≠ o.opn) || (!decide (S4 i s.marks = o.marks) || (decide (t ≤ (a : Int)) && decide ((O7 code t.toNat).op ≠ 29)))
def A4y (p : Fn) (M : Nat → Option Stt) (a : Nat) : Bool :=
 match M a with
 | none => false
 | some s =>
  let i := O7 p.code a
  A1m i.op && decide ((a : Int) = (p.code.length : Int) - 1) || (!A3T p i s || (decide (i.op = 28) && s.marks.any (fun r => decide (i.a ≤ r)) || (decide (i.op = 17) && decide (0 < s.marks.length) || (F4 p.code a).any (C0y p.code M a i s))))
noncomputable def B0f (p : Fn) : Nat → Option Stt := stM p.regs.toNat p.code p.params
noncomputable def A0U (p : Fn) : Int :=
 match (List.range p.code.length).find? (A4y p (B0f p)) with
 | some a => (a : Int)
 | none => -1
theorem B4M {p : Fn} : A0U p = -1 ↔ ∀ a, a < p.code.length → A4y p (B0f p) a = false := by
 unfold A0U
 cases h : (List.range p.code.length).find? (A4y p (B0f p)) with
 | none =>
  have := List.find?_eq_none.1 h
  simp only [true_iff]
  intro a ha
  simpa using this a (List.mem_range.2 ha)
 | some a =>
  have h1 := List.find?_some h
  have h2 := List.mem_range.1 (List.mem_of_find?_eq_some h)
  simp only
  constructor
  ·intro h; omega
  ·intro h; rw [h a h2] at h1; cases h1
mutual
noncomputable def Fn.srch : Fn → List Int → Option (List Int × Int)
 | ⟨a, b, c, d, e, f, g, h, l, j, k⟩, w => if 0 ≤ A0U ⟨a, b, c, d, e, f, g, h, l, j, k⟩ then some (w, A0U ⟨a, b, c, d, e, f, g, h, l, j, k⟩) else Fn.srchs l 0 w
noncomputable def Fn.srchs : List Fn → Nat → List Int → Option (List Int × Int)
 | [], _, _ => none
 | q :: r, n, w => match Fn.srch q (w ++ [(n : Int)]) with
  | some x => some x
  | none => Fn.srchs r (n + 1) w
end
theorem Fn.srch_eq (p : Fn) (w : List Int) : p.srch w = if 0 ≤ A0U p then some (w, A0U p) else Fn.srchs p.protos 0 w := by
 obtain ⟨a, b, c, d, e, f, g, h, i, j, k⟩ := p
 rw [Fn.srch]
noncomputable def B2j (p : Fn) : Int := if A1k p ≠ 0 then A1k p else if p.srch [] = none then 0 else 21
structure Sound (p : Fn) : Prop where
 code : p.code.length ≤ 16384
 code0 : 0 < p.code.length
 regs : 0 ≤ p.regs ∧ p.regs ≤ 4096
 params : 0 ≤ p.params ∧ p.params ≤ p.regs
 inst : ∀ i ∈ p.code, A2U p i = 0
 ups : ∀ q ∈ p.protos, ∀ u ∈ q.ups, u.loc = true → 0 ≤ u.idx ∧ u.idx < p.regs
 upsl : ∀ q ∈ p.protos, q.ups.length ≤ 60
theorem A7w {p : Fn} (h : B4Q p = 0) : B4w p = 0 ∧ A8l p = 0 ∧ (∀ i ∈ p.code, A2U p i = 0) ∧ p.protos.any (C2G p) = false := by
 unfold B4Q at h
 split at h
 ·rename_i h1; exact absurd h h1
 rename_i h1
 split at h
 ·rename_i h2; exact absurd h h2
 rename_i h2
 split at h
 ·rename_i h3; exact absurd h h3
 rename_i h3
 split at h
 ·omega
 rename_i h4
 refine ⟨by simpa using h1, by simpa using h2, fun i hi => ?_, by simpa using h4⟩
 have h3 : K2 (p.code.map (A2U p)) = 0 := by simpa using h3
 rw [A5B] at h3
 exact h3 _ (List.mem_map_of_mem hi)
theorem Sound.of {p : Fn} (h : A1k p = 0) : Sound p := by
 have hs := ((A2u p).1 h).2
 obtain ⟨l, f, i, q⟩ := A7w (hs p (Fn.self_mem p))
 unfold B4w at l
 split at l
 rotate_left
 ·omega
 rename_i L
 unfold A8l at f
 split at f
 rotate_left
 ·omega
 rename_i F
 refine ⟨L.1, by omega, ⟨F.2.1, L.2.2.2.2.2.1⟩, ⟨F.2.2.1, F.2.2.2.2.1⟩, i, fun x hx u hu hl => ?_, fun x hx => ?_⟩
 ·obtain ⟨_, f2, _, _⟩ := A7w (hs x (Fn.child_mem (Fn.self_mem p) hx))
  unfold A8l at f2
  split at f2
  rotate_left
  ·omega
  rename_i F2
  have h1 := List.any_eq_false.1 F2.2.2.2.2.2.2.2.1 u hu
  have h2 := List.any_eq_false.1 q x hx
  simp only [C2G, Bool.not_eq_true] at h2
  have h3 := List.any_eq_false.1 h2 u hu
  simp only [B2s, hl, if_true, decide_eq_true_eq] at h3
  simp at h1
  omega
 ·obtain ⟨l2, _⟩ := A7w (hs x (Fn.child_mem (Fn.self_mem p) hx))
  unfold B4w at l2
  split at l2
  ·rename_i L2; exact L2.2.2.2.1
  ·omega
theorem A7D {p : Fn} {i : Ins} (h : A2U p i = 0) : chk i = 0 ∧ j8 p.regs (reads i) = true ∧ j8 p.regs (D3 i) = true ∧ (A3U i.op = true → 0 ≤ i.b ∧ i.b < p.code.length) ∧ A3M p i = true := by
 unfold A2U at h
 split at h
 ·rename_i h1; exact absurd h h1
 rename_i h1
 split at h
 ·rename_i h2; exact ⟨by simpa using h1, h2⟩
 ·omega
theorem B2b {regs : Int} {l : List Int × Int} (h : j8 regs l = true) : l.2 ≤ regs ∧ ∀ r ∈ l.1, r < regs := by
 unfold j8 at h
 rw [Bool.and_eq_true, Bool.not_eq_true'] at h
 refine ⟨of_decide_eq_true h.1, fun r hr => ?_⟩
 have := List.any_eq_false.1 h.2 r hr
 simp at this; omega
theorem Sound.fit {p : Fn} (h : Sound p) : ∀ i ∈ p.code, Fit p.regs.toNat i := fun i hi => by
 obtain ⟨h1, _, h3, _⟩ := A7D (h.inst i hi)
 obtain ⟨w1, w2⟩ := B2b h3
 have hr := h.regs
 exact ⟨h1, fun r hr => by have := ((A6n i).1 r hr).1; have := w2 r hr; omega, by omega⟩
theorem Sound.reads {p : Fn} (h : Sound p) : ∀ i ∈ p.code, ∀ r ∈ (reads i).1, 0 ≤ r ∧ r < p.regs := fun i hi r hr => by
 obtain ⟨_, h2, _⟩ := A7D (h.inst i hi)
 exact ⟨((A5o i).1 r hr).1, (B2b h2).2 r hr⟩
theorem Sound.proto {p : Fn} (h : Sound p) {i : Ins} (hi : i ∈ p.code) (ho : i.op = 22) : 0 ≤ i.b ∧ ∃ q, p.protos[i.b.toNat]? = some q := by
 obtain ⟨hk, _, _, _, hr⟩ := A7D (h.inst i hi)
 have hb : 0 ≤ i.b := by
  unfold chk at hk
  obtain ⟨op, a, b, c, d⟩ := i
  simp only at hk ho ⊢
  subst ho
  simp [frm, B2l, B9a, A2S, A1P, A1i, low, high, B9P, B3d, A6I, mm2] at hk
  omega
 unfold A3M at hr
 split at hr
 ·cases hr
 split at hr
 ·cases hr
 simp [ho] at hr
 exact ⟨hb, p.protos[i.b.toNat]'(by omega), by simp⟩
theorem B0Q {N : Nat} {code : List Ins} {M : Nat → Option Stt} {e : Nat × Int} {k : Nat} (h : (M k).isSome = true) : (L7 N code M e k).isSome = true := by
 have hu : ∀ s, (J4 M e.2.toNat s k).isSome = true := fun s => by
  unfold J4
  split
  ·rfl
  ·exact h
 cases h1 : M e.1 with
 | none => simp only [L7, h1]; exact h
 | some o =>
  cases h2 : M e.2.toNat with
  | none => simp only [L7, h1, h2]; exact hu _
  | some t => simp only [L7, h1, h2]; exact hu _
theorem A7b {N : Nat} {code : List Ins} : ∀ (l : List (Nat × Int)) {M : Nat → Option Stt} {k : Nat}, (M k).isSome = true → (l.foldl (L7 N code) M k).isSome = true
 | [], _, _, h => h
 | e :: l, _, _, h => A7b l (B0Q h)
theorem C1N {N : Nat} {code : List Ins} {M : Nat → Option Stt} {e : Nat × Int} (h : (M e.1).isSome = true) : (L7 N code M e e.2.toNat).isSome = true := by
 obtain ⟨s, hs⟩ := Option.isSome_iff_exists.1 h
 cases h2 : M e.2.toNat with
 | none => simp [L7, hs, h2, J4]
 | some t => simp [L7, hs, h2, J4]
theorem B9C {N : Nat} {code : List Ins} {M : Nat → Option Stt} {e : Nat × Int} (he : e ∈ D6 code) (h : (M e.1).isSome = true) : (A7E N code M e.2.toNat).isSome = true := by
 obtain ⟨l, r, hl⟩ := List.append_of_mem he
 unfold A7E
 rw [hl, List.foldl_append, List.foldl_cons]
 exact A7b r (C1N (A7b l h))
theorem B9r {code : List Ins} {a : Nat} {t : Int} (ha : a < code.length) (ht : t ∈ F4 code a) : (a, t) ∈ D6 code := by
 simp only [D6, List.mem_flatMap, List.mem_range, List.mem_map]
 exact ⟨a, ha, t, ht, rfl⟩
theorem A4Y.next {N : Nat} {code : List Ins} {params : Int} {M : Nat → Option Stt} (h : A4Y N code params M) {a : Nat} {s : Stt} (ha : a < code.length) (hs : M a = some s) {t : Int} (ht : t ∈ F4 code a) : ∃ o, M t.toNat = some o := by
 obtain ⟨k, _, hf⟩ := h
 have := B9C (N := N) (M := M) (B9r ha ht) (by rw [hs]; rfl)
 rw [hf] at this
 exact Option.isSome_iff_exists.1 this
theorem B4P {N : Nat} {code : List Ins} {P : (Nat → Option Stt) → Prop} (hs : ∀ M e, e ∈ D6 code → P M → P (L7 N code M e)) : ∀ (l : List (Nat × Int)), (∀ e ∈ l, e ∈ D6 code) → ∀ M, P M → P (l.foldl (L7 N code) M)
 | [], _, _, h => h
 | e :: l, hl, M, h => B4P hs l (fun x hx => hl x (List.mem_cons_of_mem _ hx)) _ (hs M e (hl e List.mem_cons_self) h)
theorem B5q {N : Nat} {code : List Ins} {params : Int} {P : (Nat → Option Stt) → Prop} (h0 : P (M0 N params)) (hs : ∀ M e, e ∈ D6 code → P M → P (L7 N code M e)) : ∀ j, P (A6F N code params j)
 | 0 => h0
 | j + 1 => B4P hs _ (fun _ h => h) _ (B5q h0 hs j)
theorem A4Y.ind {N : Nat} {code : List Ins} {params : Int} {M : Nat → Option Stt} (h : A4Y N code params M) {P : (Nat → Option Stt) → Prop} (h0 : P (M0 N params)) (hs : ∀ M e, e ∈ D6 code → P M → P (L7 N code M e)) : P M := by
 obtain ⟨k, rfl, _⟩ := h
 exact B5q h0 hs k
theorem A9R {N : Nat} {code : List Ins} {M : Nat → Option Stt} {e : Nat × Int} {k : Nat} {s : Stt} (h : L7 N code M e k = some s) :
  M k = some s ∨ (∃ o, M e.1 = some o ∧ k = e.2.toNat ∧ M k = none ∧ s = D9 N (O7 code e.1) e.1 e.2 o) ∨ (∃ o t, M e.1 = some o ∧ k = e.2.toNat ∧ M k = some t ∧ s = U8 t (D9 N (O7 code e.1) e.1 e.2 o)) := by
 cases h1 : M e.1 with
 | none => simp only [L7, h1] at h; exact .inl h
 | some o =>
  cases h2 : M e.2.toNat with
  | none =>
   simp only [L7, h1, h2, J4] at h
   by_cases hk : k = e.2.toNat
   ·rw [if_pos hk] at h
    exact .inr (.inl ⟨o, rfl, hk, hk ▸ h2, (Option.some.inj h).symm⟩)
   ·rw [if_neg hk] at h; exact .inl h
  | some t =>
   simp only [L7, h1, h2, J4] at h
   by_cases hk : k = e.2.toNat
   ·rw [if_pos hk] at h
    exact .inr (.inr ⟨o, t, rfl, hk, hk ▸ h2, (Option.some.inj h).symm⟩)
   ·rw [if_neg hk] at h; exact .inl h
theorem A6j {code : List Ins} {a : Nat} (h : a < code.length) : code[a]? = some (O7 code a) ∧ O7 code a ∈ code := by
 have h1 : code[a]? = some (O7 code a) := by unfold O7; rw [List.getD_eq_getElem?_getD, List.getElem?_eq_getElem h]; rfl
 exact ⟨h1, List.mem_of_getElem? h1⟩
theorem A4Y.opn {N : Nat} {code : List Ins} {params : Int} {M : Nat → Option Stt} (h : A4Y N code params M) (hf : ∀ i ∈ code, Fit N i) : ∀ k s, M k = some s → s.opn ≤ N := by
 refine h.ind (P := fun M => ∀ k s, M k = some s → s.opn ≤ N) ?_ ?_
 ·intro k s hs
  unfold M0 at hs
  split at hs
  ·injection hs with hs; subst hs; simp only [B3Z]; omega
  ·cases hs
 ·intro M e he hP k s hs
  rcases A9R hs with h | ⟨o, ho, _, _, rfl⟩ | ⟨o, t, ho, _, ht, rfl⟩
  ·exact hP k s h
  ·rw [A9v]; exact (hf _ (A6j (B6l he).1).2).wo
  ·exact hP k t ht
theorem A4Y.zero {N : Nat} {code : List Ins} {params : Int} {M : Nat → Option Stt} (h : A4Y N code params M) : ∃ o, M 0 = some o ∧ o.marks = [] := by
 refine h.ind (P := fun M => ∃ o, M 0 = some o ∧ o.marks = []) ⟨B3Z N params, rfl, rfl⟩ ?_
 rintro M e he ⟨o, ho, hm⟩
 have := B0Q (N := N) (code := code) (e := e) (show (M 0).isSome = true by rw [ho]; rfl)
 obtain ⟨s, hs⟩ := Option.isSome_iff_exists.1 this
 refine ⟨s, hs, ?_⟩
 rcases A9R hs with h | ⟨o2, _, _, hn, rfl⟩ | ⟨o2, t, _, _, ht, rfl⟩
 ·rw [ho] at h; injection h with h; rw [← h]; exact hm
 ·rw [ho] at hn; cases hn
 ·rw [ho] at ht; injection ht with ht; rw [← ht]; exact hm
def C4m (N : Nat) (m : List Int) : Prop := Asc m ∧ ∀ r ∈ m, 0 ≤ r ∧ r < N
theorem C4m.at {N : Nat} {m : List Int} (h : C4m N m) {i : Nat} {x : Int} (hx : m[i]? = some x) : 0 ≤ x ∧ x < N ∧ ∀ y, 0 < i → m[i - 1]? = some y → y < x := by
 refine ⟨(h.2 x (List.mem_of_getElem? hx)).1, (h.2 x (List.mem_of_getElem? hx)).2, fun y hi hy => ?_⟩
 obtain ⟨h1, rfl⟩ := List.getElem?_eq_some_iff.1 hx
 obtain ⟨h2, rfl⟩ := List.getElem?_eq_some_iff.1 hy
 exact List.pairwise_iff_getElem.1 h.1 (i - 1) i h2 h1 (by omega)
end Go.Proofs.YtilggmmkmegefaaGreatDoor
