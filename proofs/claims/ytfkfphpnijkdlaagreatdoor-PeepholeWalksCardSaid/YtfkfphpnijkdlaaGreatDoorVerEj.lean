/-
 The rounds come to an end; what is reached. No condition.
-/
import Derived.Test.YtfkfphpnijkdlaaGreatDoorVerP3
set_option linter.unusedVariables false
set_option linter.unusedSimpArgs false
set_option maxRecDepth 100000
set_option maxHeartbeats 0
namespace Go.Proofs.YtfkfphpnijkdlaaGreatDoor
open Go.Abs
def InM (N n : Nat) (M : Nat → Option Stt) : Prop := ∀ k s, M k = some s → k < n ∧ ∀ r, N ≤ r → s.set r = false
theorem InM.step {N : Nat} {code : List Ins} {M : Nat → Option Stt} {e : Nat × Int} (he : e ∈ edgesL code) (h : InM N code.length M) : InM N code.length (stepM N code M e) := by
 obtain ⟨_, _, h0, h1⟩ := edges_in he
 intro k s hs
 rcases stepM_cases hs with g | ⟨o, ho, hk, _, rfl⟩ | ⟨o, t, ho, hk, ht, rfl⟩
 ·exact h k s g
 ·exact ⟨by omega, fun r hr => passF_out hr⟩
 ·exact ⟨by omega, fun r hr => by simp only [joinF, (h k t ht).2 r hr, Bool.false_and]⟩
theorem InM.less {N : Nat} {code : List Ins} {M : Nat → Option Stt} {e : Nat × Int} (he : e ∈ edgesL code) (h : InM N code.length M) : stepM N code M e = M ∨ mu N code.length (stepM N code M e) < mu N code.length M := by
 obtain ⟨_, _, h0, h1⟩ := edges_in he
 have hb : e.2.toNat < code.length := by omega
 cases ha : M e.1 with
 | none => left; simp only [stepM, ha]
 | some o =>
  cases hm : M e.2.toNat with
  | none => right; simp only [stepM, ha, hm]; exact mu_new hb hm
  | some t =>
   simp only [stepM, ha, hm]
   generalize passF N (insAt code e.1) e.1 e.2 o = u
   cases hc : (List.range N).any (fun r => t.set r && !u.set r) with
   | false =>
    left
    rw [joinF_same (N := N) (fun r hr ht => ?_) (h _ t hm).2, updM_same hm]
    have := List.any_eq_false.1 hc r (List.mem_range.2 hr)
    cases hu : u.set r with
    | true => rfl
    | false => simp [ht, hu] at this
   | true =>
    right
    obtain ⟨r, hr, h2⟩ := List.any_eq_true.1 hc
    rw [Bool.and_eq_true] at h2
    exact mu_join hb hm (List.mem_range.1 hr) h2.1 (by simpa using h2.2)
theorem InM.fold {N : Nat} {code : List Ins} : ∀ (l : List (Nat × Int)), (∀ e ∈ l, e ∈ edgesL code) → ∀ M, InM N code.length M → (l.foldl (stepM N code) M = M ∨ mu N code.length (l.foldl (stepM N code) M) < mu N code.length M) ∧ InM N code.length (l.foldl (stepM N code) M)
 | [], _, M, h => ⟨.inl rfl, h⟩
 | e :: l, hl, M, h => by
  have h1 := h.less (hl e List.mem_cons_self)
  have h2 := InM.fold l (fun x hx => hl x (List.mem_cons_of_mem _ hx)) _ (h.step (hl e List.mem_cons_self))
  rw [List.foldl_cons]
  refine ⟨?_, h2.2⟩
  rcases h1 with h1 | h1 <;> rcases h2.1 with h3 | h3
  ·left; rw [h1] at h3 ⊢; exact h3
  ·right; rw [h1] at h3 ⊢; exact h3
  ·right; rw [h3]; exact h1
  ·right; omega
theorem iter_end {N : Nat} {code : List Ins} {params : Int} (hc : 0 < code.length) : ∀ (m k : Nat), mu N code.length (iterM N code params k) ≤ m → InM N code.length (iterM N code params k) → ∃ M, StIs N code params M := by
 intro m
 induction m with
 | zero =>
  intro k hk hi
  have := (InM.fold _ (fun _ h => h) _ hi).1
  rcases this with h | h
  ·exact ⟨_, k, rfl, h⟩
  ·omega
 | succ m ih =>
  intro k hk hi
  have h2 := InM.fold _ (fun _ h => h) _ hi
  rcases h2.1 with h | h
  ·exact ⟨_, k, rfl, h⟩
  ·exact ih (k + 1) (by show mu N code.length (roundM N code (iterM N code params k)) ≤ m; have h : mu N code.length (roundM N code (iterM N code params k)) < mu N code.length (iterM N code params k) := h; omega) h2.2
theorem stM_is {N : Nat} {code : List Ins} {params : Int} (hc : 0 < code.length) : StIs N code params (stM N code params) := by
 obtain ⟨M, hM⟩ := iter_end (N := N) (params := params) hc _ 0 (Nat.le_refl _) (fun k s hs => by
  simp only [iterM, M0] at hs
  split at hs
  ·rename_i hk
   injection hs with hs
   subst hs
   refine ⟨by omega, fun r hr => ?_⟩
   have : ¬ r < N := by omega
   simp [entF, this]
  ·cases hs)
 exact stM_eq hM ▸ hM
theorem InM.still {N : Nat} {code : List Ins} : ∀ (l : List (Nat × Int)), (∀ e ∈ l, e ∈ edgesL code) → ∀ M, InM N code.length M → l.foldl (stepM N code) M = M → ∀ e ∈ l, stepM N code M e = M
 | [], _, _, _, _, _, h => by cases h
 | e :: l, hl, M, h, hf, x, hx => by
  have h1 := h.less (hl e List.mem_cons_self)
  have h2 := InM.fold l (fun x hx => hl x (List.mem_cons_of_mem _ hx)) _ (h.step (hl e List.mem_cons_self))
  rw [List.foldl_cons] at hf
  have he : stepM N code M e = M := by
   rcases h1 with h1 | h1
   ·exact h1
   ·rcases h2.1 with h3 | h3
    ·rw [hf] at h3; exact h3.symm
    ·rw [hf] at h3; omega
  rw [he] at hf
  rcases List.mem_cons.1 hx with rfl | hx
  ·exact he
  ·exact InM.still l (fun x hx => hl x (List.mem_cons_of_mem _ hx)) M h hf x hx
theorem StIs.first {N : Nat} {code : List Ins} {params : Int} {M : Nat → Option Stt} (h : StIs N code params M) : ∃ s, M 0 = some s ∧ ∀ r : Nat, s.set r = true → (r : Int) < params := by
 refine h.ind (P := fun M => ∃ s, M 0 = some s ∧ ∀ r : Nat, s.set r = true → (r : Int) < params) ⟨entF N params, rfl, fun r hr => by simp [entF] at hr; exact hr.2⟩ ?_
 rintro M e he ⟨o, ho, hm⟩
 have := stepM_mono (N := N) (code := code) (e := e) (show (M 0).isSome = true by rw [ho]; rfl)
 obtain ⟨s, hs⟩ := Option.isSome_iff_exists.1 this
 refine ⟨s, hs, ?_⟩
 rcases stepM_cases hs with h | ⟨o2, _, _, hn, rfl⟩ | ⟨o2, t, _, _, ht, rfl⟩
 ·rw [ho] at h; injection h with h; rw [← h]; exact hm
 ·rw [ho] at hn; cases hn
 ·rw [ho] at ht; injection ht with ht
  intro r hr
  simp only [joinF, Bool.and_eq_true] at hr
  exact hm r (ht ▸ hr.1)
theorem StIs.path {N : Nat} {code : List Ins} {params : Int} {M : Nat → Option Stt} (h : StIs N code params M) {a : Nat} (hp : Path code a) : a < code.length ∧ ∃ s, M a = some s := by
 induction hp with
 | zero h0 =>
  obtain ⟨o, ho, _⟩ := h.zero
  exact ⟨h0, o, ho⟩
 | step hi hj ih =>
  obtain ⟨hl, s, hs⟩ := ih
  obtain ⟨o, ho⟩ := h.next hl hs hj
  rw [Int.toNat_natCast] at ho
  have := nextL_in hj
  exact ⟨by omega, o, ho⟩
theorem next_of {code : List Ins} {a : Nat} (ha : a < code.length) {t : Int} : t ∈ nextL code a ↔ (isJump (insAt code a).op = true ∧ 0 ≤ (insAt code a).b ∧ (insAt code a).b < code.length ∧ t = (insAt code a).b) ∨ (falls (insAt code a).op = true ∧ (a : Int) + 1 < code.length ∧ t = a + 1) := by
 have h1 : ¬ ((a : Int) < 0 ∨ (a : Int) ≥ code.length) := by omega
 unfold nextL
 rw [if_neg h1, Int.toNat_natCast, (insAt_mem ha).1]
 simp only [mem_normZ_iff, List.mem_append]
 unfold tgtL fallL
 constructor
 ·rintro (h | h)
  ·split at h
   ·rename_i c; left; exact ⟨c.1, c.2.1, c.2.2, List.mem_singleton.1 h⟩
   ·cases h
  ·split at h
   ·rename_i c; right; exact ⟨c.1, c.2, List.mem_singleton.1 h⟩
   ·cases h
 ·rintro (⟨c1, c2, c3, rfl⟩ | ⟨c1, c2, rfl⟩)
  ·left; rw [if_pos ⟨c1, c2, c3⟩]; exact List.mem_singleton.2 rfl
  ·right; rw [if_pos ⟨c1, c2⟩]; exact List.mem_singleton.2 rfl
theorem jumps_law {p : Fn} (hs : Sound p) (hI : StIs p.regs.toNat p.code p.params (stOf p)) (hv : firstF p = -1) {a : Nat} (hp : Path p.code a) :
  (nextL p.code a = [] → (insAt p.code a).op = 18 ∨ (insAt p.code a).op = 17) ∧ ∀ t ∈ nextL p.code a, t ≤ (a : Int) → (insAt p.code t.toNat).op = 29 := by
 obtain ⟨ha, s, hm⟩ := hI.path hp
 obtain ⟨h1, _, _, _, h5⟩ := violF_no (firstF_none.1 hv a ha) hm
 refine ⟨fun hn => ?_, fun t ht hle => (h5 t ht).choose_spec.2.2.2 hle⟩
 by_cases c : falls (insAt p.code a).op = true
 ·have := h1 c
  have hx : ((a : Int) + 1) ∈ nextL p.code a := (next_of ha).2 (.inr ⟨c, by omega, rfl⟩)
  rw [hn] at hx; cases hx
 ·by_cases d : (insAt p.code a).op = 14
  ·obtain ⟨_, _, _, hb, _⟩ := instE_zero (hs.inst _ (insAt_mem ha).2)
   have hj : isJump (insAt p.code a).op = true := by rw [d]; rfl
   have := hb hj
   have hx : (insAt p.code a).b ∈ nextL p.code a := (next_of ha).2 (.inl ⟨hj, this.1, this.2, rfl⟩)
   rw [hn] at hx; cases hx
  ·unfold falls at c
   simp at c
   have := c d
   by_cases e : (insAt p.code a).op = 17
   ·exact .inr e
   ·exact .inl (this e)
end Go.Proofs.YtfkfphpnijkdlaaGreatDoor
