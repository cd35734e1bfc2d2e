/-
 What is accepted, plain. No condition.
-/
import Derived.Test.YtoanghfeednogaaGreatDoorVerT
import Derived.Test.YtoanghfeednogaaGreatDoorVerP1
import Derived.Test.YtoanghfeednogaaGreatDoorFnSW
set_option linter.unusedVariables false
set_option linter.unusedSimpArgs false
set_option maxRecDepth 100000
set_option maxHeartbeats 0
namespace Go.Proofs.YtoanghfeednogaaGreatDoor
open Go.Abs
def C6p (p : Fn) (i : Ins) : List Int := if i.op = 22 then ((((p.protos[i.b.toNat]?).map Fn.ups).getD []).filter Upv.loc).map Upv.idx else []
def A9Q (a b : Int) : List Int := if 0 ≤ a then (List.range (b - a).toNat).map fun (k : Nat) => a + (k : Int) else []
def A2W (f o : Int) : Bool := decide (0 ≤ f ↔ 0 ≤ o) && decide (f ≤ o)
def A6x (p : Fn) (i : Ins) (s : Stt) : List Int := (reads i).1 ++ A9Q (reads i).2 s.opn ++ C6p p i
def A4j (p : Fn) (i : Ins) (s : Stt) : Bool := A2W (reads i).2 s.opn && !(A6x p i s).any fun r => !s.set r.toNat
def C2z (code : List Ins) (M : Nat → Option Stt) (a : Nat) (i : Ins) (s : Stt) (t : Int) : Bool :=
 match M t.toNat with
 | none => true
 | some o => decide ((C4 i).2 ≠ o.opn) || (!decide (V6 i s.marks = o.marks) || (decide (t ≤ (a : Int)) && decide ((R0 code t.toNat).op ≠ 29)))
def A5s (p : Fn) (M : Nat → Option Stt) (a : Nat) : Bool :=
 match M a with
 | none => false
 | some s =>
  let i := R0 p.code a
  A1L i.op && decide ((a : Int) = (p.code.length : Int) - 1) || (!A4j p i s || (decide (i.op = 28) && s.marks.any (fun r => decide (i.a ≤ r)) || (decide (i.op = 17) && decide (0 < s.marks.length) || (C2 p.code a).any (C2z p.code M a i s))))
noncomputable def B1O (p : Fn) : Nat → Option Stt := stM p.regs.toNat p.code p.params
noncomputable def A0L (p : Fn) : Int :=
 match (List.range p.code.length).find? (A5s p (B1O p)) with
 | some a => (a : Int)
 | none => -1
theorem B6I {p : Fn} : A0L p = -1 ↔ ∀ a, a < p.code.length → A5s p (B1O p) a = false := by
 unfold A0L
 cases h : (List.range p.code.length).find? (A5s p (B1O p)) with
 | none =>
  have := List.find?_eq_none.1 h
  simp only [true_iff]
  intro a ha
  simpa using this a (List.mem_range.2 ha)
 | some a =>
  have h1 := List.find?_some h
  have h2 := List.mem_range.1 (List.mem_of_find?_eq_some h)
  simp only
  constructor
  ·intro h; omega
  ·intro h; rw [h a h2] at h1; cases h1
mutual
noncomputable def Fn.srch : Fn → List Int → Option (List Int × Int)
 | ⟨a, b, c, d, e, f, g, h, l, j, k⟩, w => if 0 ≤ A0L ⟨a, b, c, d, e, f, g, h, l, j, k⟩ then some (w, A0L ⟨a, b, c, d, e, f, g, h, l, j, k⟩) else Fn.srchs l 0 w
noncomputable def Fn.srchs : List Fn → Nat → List Int → Option (List Int × Int)
 | [], _, _ => none
 | q :: r, n, w => match Fn.srch q (w ++ [(n : Int)]) with
  | some x => some x
  | none => Fn.srchs r (n + 1) w
end
theorem Fn.srch_eq (p : Fn) (w : List Int) : p.srch w = if 0 ≤ A0L p then some (w, A0L p) else Fn.srchs p.protos 0 w := by
 obtain ⟨a, b, c, d, e, f, g, h, i, j, k⟩ := p
 rw [Fn.srch]
noncomputable def B5S (p : Fn) : Int := if Y5 p ≠ 0 then Y5 p else if p.srch [] = none then 0 else 21
structure Sound (p : Fn) : Prop where
 code : p.code.length ≤ 16384
 code0 : 0 < p.code.length
 regs : 0 ≤ p.regs ∧ p.regs ≤ 4096
 params : 0 ≤ p.params ∧ p.params ≤ p.regs
 inst : ∀ i ∈ p.code, A0d p i = 0
 ups : ∀ q ∈ p.protos, ∀ u ∈ q.ups, u.loc = true → 0 ≤ u.idx ∧ u.idx < p.regs
 upsl : ∀ q ∈ p.protos, q.ups.length ≤ 60
theorem A8x {p : Fn} (h : B3l p = 0) : B1H p = 0 ∧ A4w p = 0 ∧ (∀ i ∈ p.code, A0d p i = 0) ∧ p.protos.any (C4Z p) = false := by
 unfold B3l at h
 split at h
 ·rename_i h1; exact absurd h h1
 rename_i h1
 split at h
 ·rename_i h2; exact absurd h h2
 rename_i h2
 split at h
 ·rename_i h3; exact absurd h h3
 rename_i h3
 split at h
 ·omega
 rename_i h4
 refine ⟨by simpa using h1, by simpa using h2, fun i hi => ?_, by simpa using h4⟩
 have h3 : M4 (p.code.map (A0d p)) = 0 := by simpa using h3
 rw [A1M] at h3
 exact h3 _ (List.mem_map_of_mem hi)
theorem Sound.of {p : Fn} (h : Y5 p = 0) : Sound p := by
 have hs := ((B2n p).1 h).2
 obtain ⟨l, f, i, q⟩ := A8x (hs p (Fn.self_mem p))
 unfold B1H at l
 split at l
 rotate_left
 ·omega
 rename_i L
 unfold A4w at f
 split at f
 rotate_left
 ·omega
 rename_i F
 refine ⟨L.1, by omega, ⟨F.2.1, L.2.2.2.2.2.1⟩, ⟨F.2.2.1, F.2.2.2.2.1⟩, i, fun x hx u hu hl => ?_, fun x hx => ?_⟩
 ·obtain ⟨_, f2, _, _⟩ := A8x (hs x (Fn.child_mem (Fn.self_mem p) hx))
  unfold A4w at f2
  split at f2
  rotate_left
  ·omega
  rename_i F2
  have h1 := List.any_eq_false.1 F2.2.2.2.2.2.2.2.1 u hu
  have h2 := List.any_eq_false.1 q x hx
  simp only [C4Z, Bool.not_eq_true] at h2
  have h3 := List.any_eq_false.1 h2 u hu
  simp only [B3D, hl, if_true, decide_eq_true_eq] at h3
  simp at h1
  omega
 ·obtain ⟨l2, _⟩ := A8x (hs x (Fn.child_mem (Fn.self_mem p) hx))
  unfold B1H at l2
  split at l2
  ·rename_i L2; exact L2.2.2.2.1
  ·omega
theorem A8a {p : Fn} {i : Ins} (h : A0d p i = 0) : chk i = 0 ∧ r7 p.regs (reads i) = true ∧ r7 p.regs (C4 i) = true ∧ (J1 i.op = true → 0 ≤ i.b ∧ i.b < p.code.length) ∧ A4k p i = true := by
 unfold A0d at h
 split at h
 ·rename_i h1; exact absurd h h1
 rename_i h1
 split at h
 ·rename_i h2; exact ⟨by simpa using h1, h2⟩
 ·omega
theorem B3x {regs : Int} {l : List Int × Int} (h : r7 regs l = true) : l.2 ≤ regs ∧ ∀ r ∈ l.1, r < regs := by
 unfold r7 at h
 rw [Bool.and_eq_true, Bool.not_eq_true'] at h
 refine ⟨of_decide_eq_true h.1, fun r hr => ?_⟩
 have := List.any_eq_false.1 h.2 r hr
 simp at this; omega
theorem Sound.fit {p : Fn} (h : Sound p) : ∀ i ∈ p.code, Fit p.regs.toNat i := fun i hi => by
 obtain ⟨h1, _, h3, _⟩ := A8a (h.inst i hi)
 obtain ⟨w1, w2⟩ := B3x h3
 have hr := h.regs
 exact ⟨h1, fun r hr => by have := ((A3U i).1 r hr).1; have := w2 r hr; omega, by omega⟩
theorem Sound.reads {p : Fn} (h : Sound p) : ∀ i ∈ p.code, ∀ r ∈ (reads i).1, 0 ≤ r ∧ r < p.regs := fun i hi r hr => by
 obtain ⟨_, h2, _⟩ := A8a (h.inst i hi)
 exact ⟨((A3x i).1 r hr).1, (B3x h2).2 r hr⟩
theorem Sound.proto {p : Fn} (h : Sound p) {i : Ins} (hi : i ∈ p.code) (ho : i.op = 22) : 0 ≤ i.b ∧ ∃ q, p.protos[i.b.toNat]? = some q := by
 obtain ⟨hk, _, _, _, hr⟩ := A8a (h.inst i hi)
 have hb : 0 ≤ i.b := by
  unfold chk at hk
  obtain ⟨op, a, b, c, d⟩ := i
  simp only at hk ho ⊢
  subst ho
  simp [frm, B3G, C1g, A2L, A2w, A0M, low, high, C1u, B4m, A7w, mm2] at hk
  omega
 unfold A4k at hr
 split at hr
 ·cases hr
 split at hr
 ·cases hr
 simp [ho] at hr
 exact ⟨hb, p.protos[i.b.toNat]'(by omega), by simp⟩
theorem B3p {N : Nat} {code : List Ins} {M : Nat → Option Stt} {e : Nat × Int} {k : Nat} (h : (M k).isSome = true) : (O3 N code M e k).isSome = true := by
 have hu : ∀ s, (L3 M e.2.toNat s k).isSome = true := fun s => by
  unfold L3
  split
  ·rfl
  ·exact h
 cases h1 : M e.1 with
 | none => simp only [O3, h1]; exact h
 | some o =>
  cases h2 : M e.2.toNat with
  | none => simp only [O3, h1, h2]; exact hu _
  | some t => simp only [O3, h1, h2]; exact hu _
theorem A7Z {N : Nat} {code : List Ins} : ∀ (l : List (Nat × Int)) {M : Nat → Option Stt} {k : Nat}, (M k).isSome = true → (l.foldl (O3 N code) M k).isSome = true
 | [], _, _, h => h
 | e :: l, _, _, h => A7Z l (B3p h)
theorem C4z {N : Nat} {code : List Ins} {M : Nat → Option Stt} {e : Nat × Int} (h : (M e.1).isSome = true) : (O3 N code M e e.2.toNat).isSome = true := by
 obtain ⟨s, hs⟩ := Option.isSome_iff_exists.1 h
 cases h2 : M e.2.toNat with
 | none => simp [O3, hs, h2, L3]
 | some t => simp [O3, hs, h2, L3]
theorem C1N {N : Nat} {code : List Ins} {M : Nat → Option Stt} {e : Nat × Int} (he : e ∈ D3 code) (h : (M e.1).isSome = true) : (A8t N code M e.2.toNat).isSome = true := by
 obtain ⟨l, r, hl⟩ := List.append_of_mem he
 unfold A8t
 rw [hl, List.foldl_append, List.foldl_cons]
 exact A7Z r (C4z (A7Z l h))
theorem C0L {code : List Ins} {a : Nat} {t : Int} (ha : a < code.length) (ht : t ∈ C2 code a) : (a, t) ∈ D3 code := by
 simp only [D3, List.mem_flatMap, List.mem_range, List.mem_map]
 exact ⟨a, ha, t, ht, rfl⟩
theorem A5t.next {N : Nat} {code : List Ins} {params : Int} {M : Nat → Option Stt} (h : A5t N code params M) {a : Nat} {s : Stt} (ha : a < code.length) (hs : M a = some s) {t : Int} (ht : t ∈ C2 code a) : ∃ o, M t.toNat = some o := by
 obtain ⟨k, _, hf⟩ := h
 have := C1N (N := N) (M := M) (C0L ha ht) (by rw [hs]; rfl)
 rw [hf] at this
 exact Option.isSome_iff_exists.1 this
theorem B6J {N : Nat} {code : List Ins} {P : (Nat → Option Stt) → Prop} (hs : ∀ M e, e ∈ D3 code → P M → P (O3 N code M e)) : ∀ (l : List (Nat × Int)), (∀ e ∈ l, e ∈ D3 code) → ∀ M, P M → P (l.foldl (O3 N code) M)
 | [], _, _, h => h
 | e :: l, hl, M, h => B6J hs l (fun x hx => hl x (List.mem_cons_of_mem _ hx)) _ (hs M e (hl e List.mem_cons_self) h)
theorem B6O {N : Nat} {code : List Ins} {params : Int} {P : (Nat → Option Stt) → Prop} (h0 : P (M0 N params)) (hs : ∀ M e, e ∈ D3 code → P M → P (O3 N code M e)) : ∀ j, P (A7v N code params j)
 | 0 => h0
 | j + 1 => B6J hs _ (fun _ h => h) _ (B6O h0 hs j)
theorem A5t.ind {N : Nat} {code : List Ins} {params : Int} {M : Nat → Option Stt} (h : A5t N code params M) {P : (Nat → Option Stt) → Prop} (h0 : P (M0 N params)) (hs : ∀ M e, e ∈ D3 code → P M → P (O3 N code M e)) : P M := by
 obtain ⟨k, rfl, _⟩ := h
 exact B6O h0 hs k
theorem B1q {N : Nat} {code : List Ins} {M : Nat → Option Stt} {e : Nat × Int} {k : Nat} {s : Stt} (h : O3 N code M e k = some s) :
  M k = some s ∨ (∃ o, M e.1 = some o ∧ k = e.2.toNat ∧ M k = none ∧ s = D7 N (R0 code e.1) e.1 e.2 o) ∨ (∃ o t, M e.1 = some o ∧ k = e.2.toNat ∧ M k = some t ∧ s = X0 t (D7 N (R0 code e.1) e.1 e.2 o)) := by
 cases h1 : M e.1 with
 | none => simp only [O3, h1] at h; exact .inl h
 | some o =>
  cases h2 : M e.2.toNat with
  | none =>
   simp only [O3, h1, h2, L3] at h
   by_cases hk : k = e.2.toNat
   ·rw [if_pos hk] at h
    exact .inr (.inl ⟨o, rfl, hk, hk ▸ h2, (Option.some.inj h).symm⟩)
   ·rw [if_neg hk] at h; exact .inl h
  | some t =>
   simp only [O3, h1, h2, L3] at h
   by_cases hk : k = e.2.toNat
   ·rw [if_pos hk] at h
    exact .inr (.inr ⟨o, t, rfl, hk, hk ▸ h2, (Option.some.inj h).symm⟩)
   ·rw [if_neg hk] at h; exact .inl h
theorem A6R {code : List Ins} {a : Nat} (h : a < code.length) : code[a]? = some (R0 code a) ∧ R0 code a ∈ code := by
 have h1 : code[a]? = some (R0 code a) := by unfold R0; rw [List.getD_eq_getElem?_getD, List.getElem?_eq_getElem h]; rfl
 exact ⟨h1, List.mem_of_getElem? h1⟩
theorem A5t.opn {N : Nat} {code : List Ins} {params : Int} {M : Nat → Option Stt} (h : A5t N code params M) (hf : ∀ i ∈ code, Fit N i) : ∀ k s, M k = some s → s.opn ≤ N := by
 refine h.ind (P := fun M => ∀ k s, M k = some s → s.opn ≤ N) ?_ ?_
 ·intro k s hs
  unfold M0 at hs
  split at hs
  ·injection hs with hs; subst hs; simp only [B5h]; omega
  ·cases hs
 ·intro M e he hP k s hs
  rcases B1q hs with h | ⟨o, ho, _, _, rfl⟩ | ⟨o, t, ho, _, ht, rfl⟩
  ·exact hP k s h
  ·rw [B0G]; exact (hf _ (A6R (B6y he).1).2).wo
  ·exact hP k t ht
theorem A5t.zero {N : Nat} {code : List Ins} {params : Int} {M : Nat → Option Stt} (h : A5t N code params M) : ∃ o, M 0 = some o ∧ o.marks = [] := by
 refine h.ind (P := fun M => ∃ o, M 0 = some o ∧ o.marks = []) ⟨B5h N params, rfl, rfl⟩ ?_
 rintro M e he ⟨o, ho, hm⟩
 have := B3p (N := N) (code := code) (e := e) (show (M 0).isSome = true by rw [ho]; rfl)
 obtain ⟨s, hs⟩ := Option.isSome_iff_exists.1 this
 refine ⟨s, hs, ?_⟩
 rcases B1q hs with h | ⟨o2, _, _, hn, rfl⟩ | ⟨o2, t, _, _, ht, rfl⟩
 ·rw [ho] at h; injection h with h; rw [← h]; exact hm
 ·rw [ho] at hn; cases hn
 ·rw [ho] at ht; injection ht with ht; rw [← ht]; exact hm
def C6t (N : Nat) (m : List Int) : Prop := Asc m ∧ ∀ r ∈ m, 0 ≤ r ∧ r < N
theorem C6t.at {N : Nat} {m : List Int} (h : C6t N m) {i : Nat} {x : Int} (hx : m[i]? = some x) : 0 ≤ x ∧ x < N ∧ ∀ y, 0 < i → m[i - 1]? = some y → y < x := by
 refine ⟨(h.2 x (List.mem_of_getElem? hx)).1, (h.2 x (List.mem_of_getElem? hx)).2, fun y hi hy => ?_⟩
 obtain ⟨h1, rfl⟩ := List.getElem?_eq_some_iff.1 hx
 obtain ⟨h2, rfl⟩ := List.getElem?_eq_some_iff.1 hy
 exact List.pairwise_iff_getElem.1 h.1 (i - 1) i h2 h1 (by omega)
end Go.Proofs.YtoanghfeednogaaGreatDoor
