/-
  A region whose order is drawn means what it means in one order, where its steps that no edge orders do not meet. No condition.
-/
import Derived.Test.YtlckjdhammcpaaaDoorMono
set_option linter.unusedVariables false
set_option linter.unusedSimpArgs false
namespace Go.Abs

def Eqv (s s' : St) : Prop := (∀ i, sget s.sl i = sget s'.sl i) ∧ s.h = s'.h ∧ s.n = s'.n
def Resp (K : St → Prop) : Prop := ∀ s s', Eqv s s' → K s → K s'

theorem Eqv.refl (s : St) : Eqv s s := ⟨fun _ => rfl, rfl, rfl⟩
theorem Eqv.symm {s s' : St} (h : Eqv s s') : Eqv s' s := ⟨fun i => (h.1 i).symm, h.2.1.symm, h.2.2.symm⟩

def usesA (i : AI) : List Nat := usesO i.o ++ (match i.g with | some q => [q.1] | none => [])

def upd (s : St) (d : Option Nat) (v : V) : St :=
  match d with
  | some d => ⟨sset s.sl d v, s.h, s.n⟩
  | none => s

section
variable {P : Program}

theorem sset_eqv {sl sl' : List (Nat × V)} (h : ∀ i, sget sl i = sget sl' i) (d : Nat) (v : V) (i : Nat) : sget (sset sl d v) i = sget (sset sl' d v) i := by
  rw [sget_sset, sget_sset, h]

theorem fin_mono {d : Option Nat} {sl : List (Nat × V)} {K K' : St → Prop} (h : ∀ s, K s → K' s) : ∀ v hp n, fin d sl K v hp n → fin d sl K' v hp n := by
  intro v hp n hk
  cases d with
  | none => exact h _ hk
  | some d => exact h _ hk

theorem stepA_mono {i : AI} {s : St} {K K' : St → Prop} (h : ∀ s, K s → K' s) (hk : stepA P i s K) : stepA P i s K' := by
  unfold stepA at hk ⊢
  split at hk
  · exact stepO_mono (fin_mono h) hk
  · unfold stepG at hk ⊢
    split at hk
    · exact ⟨fun hb => stepO_mono (fin_mono h) (hk.1 hb), fun hb => fin_mono h _ _ _ (hk.2 hb)⟩
    · exact ⟨hk.1, fin_mono h _ _ _ hk.2⟩
    · exact hk

theorem fin_resp {d : Option Nat} {sl sl' : List (Nat × V)} {K : St → Prop} (hK : Resp K) (h : ∀ i, sget sl i = sget sl' i) : ∀ v hp n, fin d sl K v hp n → fin d sl' K v hp n := by
  intro v hp n hk
  cases d with
  | none => exact hK ⟨sl, hp, n⟩ ⟨sl', hp, n⟩ ⟨h, rfl, rfl⟩ hk
  | some d => exact hK ⟨sset sl d v, hp, n⟩ ⟨sset sl' d v, hp, n⟩ ⟨fun i => sset_eqv h d v i, rfl, rfl⟩ hk

theorem stepA_resp {i : AI} {s s' : St} {K : St → Prop} (hK : Resp K) (h : Eqv s s') (hk : stepA P i s K) : stepA P i s' K := by
  unfold stepA at hk ⊢
  split at hk
  · rw [← stepO_congr (fun i _ => h.1 i) h.2.1 h.2.2]
    exact stepO_mono (fin_resp hK h.1) hk
  · rename_i j want _
    rw [← h.1 j]
    unfold stepG at hk ⊢
    split at hk
    · refine ⟨fun hb => ?_, fun hb => ?_⟩
      · have := hk.1 hb
        rw [stepO_congr (s := ⟨sset s.sl j (.bool want), s.h, s.n⟩) (s' := ⟨sset s'.sl j (.bool want), s'.h, s'.n⟩) (fun i _ => sset_eqv h.1 j _ i) h.2.1 h.2.2] at this
        exact stepO_mono (fin_resp hK fun i => sset_eqv h.1 j _ i) this
      · have := hk.2 hb
        rw [← h.2.1, ← h.2.2]
        exact fin_resp hK (fun i => sset_eqv h.1 j _ i) _ _ _ this
    · refine ⟨hk.1, ?_⟩
      rw [← h.2.1, ← h.2.2]
      exact fin_resp hK h.1 _ _ _ hk.2
    · exact hk

theorem VOps_mono : ∀ {l : List AI} {s : St} {K K' : St → Prop}, (∀ s, K s → K' s) → VOps P l s K → VOps P l s K'
  | [], _, _, _, h, hk => h _ hk
  | _ :: _, _, _, _, h, hk => stepA_mono (fun _ => VOps_mono h) hk
theorem VOps_resp : ∀ {l : List AI} {K : St → Prop}, Resp K → Resp fun s => VOps P l s K
  | [], _, hK => hK
  | _ :: _, _, hK => fun _ _ h hk => stepA_resp (VOps_resp hK) h hk

theorem sset_known {sl : List (Nat × V)} {j : Nat} {v : V} (h : sget sl j = v) (i : Nat) : sget (sset sl j v) i = sget sl i := by
  rw [sget_sset]
  split
  · rename_i e; rw [← e, h]
  · rfl

/-- The form of a light step. -/
theorem light_form {i : AI} (hc : cls i.o ≤ 1) (s : St) : ∃ (pre : Prop) (v : V), ∀ s', Agree (usesA i) s s' → (cls i.o = 0 ∨ s'.h = s.h) → ∀ K, Resp K → (stepA P i s' K ↔ pre ∧ K (upd s' i.d v)) := by
  obtain ⟨d, g, ao⟩ := i
  have fin_upd : ∀ (s' : St) (K : St → Prop) (v : V), fin d s'.sl K v s'.h s'.n ↔ K (upd s' d v) := by
    intro s' K v
    cases d <;> exact Iff.rfl
  cases g with
  | none =>
    obtain ⟨pre, v, hf⟩ := form_of (P := P) hc s
    refine ⟨pre, v, fun s' ha hh K _ => ?_⟩
    have ha' : Agree (usesO ao) s s' := ha.left
    have e : stepO P ao s' (fin d s'.sl K) = stepO P ao ⟨s.sl, s'.h, s'.n⟩ (fin d s'.sl K) := stepO_congr (fun i hi => (ha' i hi).symm) rfl rfl
    show stepO P ao s' (fin d s'.sl K) ↔ _
    rw [e, hf _ _ _ hh, fin_upd]
  | some q =>
    obtain ⟨j, want⟩ := q
    have hj : ∀ s', Agree (usesA ⟨d, some (j, want), ao⟩) s s' → sget s.sl j = sget s'.sl j := fun s' ha => ha j (by simp [usesA])
    by_cases hb : ∃ b, sget s.sl j = .bool b
    · obtain ⟨b, hb⟩ := hb
      by_cases hbw : b = want
      · subst hbw
        obtain ⟨pre, v, hf⟩ := form_of (P := P) hc ⟨sset s.sl j (.bool b), s.h, s.n⟩
        refine ⟨pre, v, fun s' ha hh K hK => ?_⟩
        have hj' : sget s'.sl j = .bool b := by rw [← hj s' ha]; exact hb
        have ha' : Agree (usesO ao) s s' := ha.left
        have e : stepO P ao ⟨sset s'.sl j (.bool b), s'.h, s'.n⟩ (fin d (sset s'.sl j (.bool b)) K) = stepO P ao ⟨sset s.sl j (.bool b), s'.h, s'.n⟩ (fin d (sset s'.sl j (.bool b)) K) :=
          stepO_congr (fun i hi => by simp only [sset_known hj', sset_known hb]; exact (ha' i hi).symm) rfl rfl
        have h1 : stepA P ⟨d, some (j, b), ao⟩ s' K ↔ stepO P ao ⟨sset s'.sl j (.bool b), s'.h, s'.n⟩ (fin d (sset s'.sl j (.bool b)) K) := by
          simp only [stepA, stepG, hj']
          constructor
          · intro h; exact h.1 trivial
          · intro h; exact ⟨fun _ => h, fun hb => by cases b <;> simp at hb⟩
        rw [h1, e, hf _ _ _ hh]
        refine and_congr_right fun _ => ?_
        rw [fin_upd ⟨sset s'.sl j (.bool b), s'.h, s'.n⟩ K v]
        have ev : Eqv (upd ⟨sset s'.sl j (.bool b), s'.h, s'.n⟩ d v) (upd s' d v) := by
          cases d with
          | none => exact ⟨fun i => sset_known hj' i, rfl, rfl⟩
          | some d => exact ⟨fun i => sset_eqv (sset_known hj') d v i, rfl, rfl⟩
        exact ⟨hK _ _ ev, hK _ _ ev.symm⟩
      · have hbw' : b = !want := by cases b <;> cases want <;> simp_all
        refine ⟨True, .cst Go.undef, fun s' ha hh K hK => ?_⟩
        have hj' : sget s'.sl j = .bool b := by rw [← hj s' ha]; exact hb
        have h1 : stepA P ⟨d, some (j, want), ao⟩ s' K ↔ fin d (sset s'.sl j (.bool !want)) K (.cst Go.undef) s'.h s'.n := by
          simp only [stepA, stepG, hj']
          constructor
          · intro h; exact h.2 hbw'
          · intro h; exact ⟨fun hb => (hbw hb).elim, fun _ => h⟩
        rw [h1, true_and, ← hbw', fin_upd ⟨sset s'.sl j (.bool b), s'.h, s'.n⟩ K (.cst Go.undef)]
        have ev : Eqv (upd ⟨sset s'.sl j (.bool b), s'.h, s'.n⟩ d (.cst Go.undef)) (upd s' d (.cst Go.undef)) := by
          cases d with
          | none => exact ⟨fun i => sset_known hj' i, rfl, rfl⟩
          | some d => exact ⟨fun i => sset_eqv (sset_known hj') d (.cst Go.undef) i, rfl, rfl⟩
        exact ⟨hK _ _ ev, hK _ _ ev.symm⟩
    · by_cases hu : ∃ u, sget s.sl j = .cst u
      · obtain ⟨u, hu⟩ := hu
        refine ⟨notBool u = true, .cst Go.undef, fun s' ha hh K hK => ?_⟩
        have hj' : sget s'.sl j = .cst u := by rw [← hj s' ha]; exact hu
        simp only [stepA, stepG, hj', fin_upd s' K (.cst Go.undef)]
      refine ⟨False, .undef, fun s' ha hh K hK => ?_⟩
      have hj' : ∀ b, sget s'.sl j ≠ .bool b := fun b h => hb ⟨b, by rw [hj s' ha]; exact h⟩
      have hj2 : ∀ u, sget s'.sl j ≠ .cst u := fun b h => hu ⟨b, by rw [hj s' ha]; exact h⟩
      rw [false_and, iff_false]
      intro h
      simp only [stepA] at h
      cases hs : sget s'.sl j <;> rw [hs] at h <;> first
        | exact hj' _ hs
        | exact hj2 _ hs
        | exact h

/-- A slot that a step does not look at may be set behind it. -/
theorem frameA {j : AI} {s : St} {d : Nat} {v : V} {K : St → Prop} (hK : Resp K) (hu : d ∉ usesA j) (hd : j.d ≠ some d) (h : stepA P j (upd s (some d) v) K) : stepA P j s fun s2 => K (upd s2 (some d) v) := by
  have key : ∀ (sl : List (Nat × V)) (r : V) (hp : Heap) (n : Nat) (sl' : List (Nat × V)), (∀ i, sget sl' i = sget (sset sl d v) i) → fin j.d sl' K r hp n → fin j.d sl (fun s2 => K (upd s2 (some d) v)) r hp n := by
    intro sl r hp n sl' he hf
    cases hjd : j.d with
    | none => rw [hjd] at hf; exact hK ⟨sl', hp, n⟩ ⟨sset sl d v, hp, n⟩ ⟨he, rfl, rfl⟩ hf
    | some e =>
      rw [hjd] at hf
      refine hK ⟨sset sl' e r, hp, n⟩ ⟨sset (sset sl e r) d v, hp, n⟩ ⟨fun i => ?_, rfl, rfl⟩ hf
      have hne : e ≠ d := fun h => hd (by rw [hjd, h])
      simp only [sget_sset, he]
      split
      · split
        · rename_i h1 h2; exact (hne (h1.trans h2.symm)).elim
        · rfl
      · rfl
  unfold stepA at h ⊢
  split at h
  · have ha : Agree (usesO j.o) (upd s (some d) v) s := fun i hi => by
      simp only [upd, sget_sset]
      rw [if_neg]
      rintro rfl
      exact hu (by simp [usesA, hi])
    rw [stepO_congr ha rfl rfl] at h
    exact stepO_mono (fun r hp n => key s.sl r hp n _ fun _ => rfl) h
  · rename_i jg want hg
    have hjg : jg ≠ d := fun e => hu (by simp [usesA, hg, e])
    have hget : sget (upd s (some d) v).sl jg = sget s.sl jg := by simp only [upd, sget_sset]; rw [if_neg (fun e => hjg e.symm)]
    rw [hget] at h
    have comm : ∀ b, ∀ i, sget (sset (upd s (some d) v).sl jg b) i = sget (sset (sset s.sl jg b) d v) i := by
      intro b i
      simp only [upd, sget_sset]
      split
      · split
        · rename_i h1 h2; exact (hjg (h1.trans h2.symm)).elim
        · rfl
      · rfl
    unfold stepG at h ⊢
    split at h
    · refine ⟨fun hb => ?_, fun hb => ?_⟩
      · have h1 := h.1 hb
        have ha : Agree (usesO j.o) ⟨sset (upd s (some d) v).sl jg (.bool want), s.h, s.n⟩ ⟨sset s.sl jg (.bool want), s.h, s.n⟩ := fun i hi => by
          simp only [comm, sget_sset]
          rw [if_neg]
          rintro rfl
          exact hu (by simp [usesA, hi])
        rw [show (upd s (some d) v).h = s.h from rfl, show (upd s (some d) v).n = s.n from rfl, stepO_congr ha rfl rfl] at h1
        exact stepO_mono (fun r hp n => key (sset s.sl jg (.bool want)) r hp n _ (comm _)) h1
      · exact key (sset s.sl jg (.bool !want)) _ _ _ _ (comm _) (h.2 hb)
    · exact ⟨h.1, key s.sl _ _ _ _ (fun _ => rfl) h.2⟩
    · exact h

/-- What a step leaves as it was. -/
theorem stepA_post {j : AI} {s : St} {K : St → Prop} (hK : Resp K) (h : stepA P j s K) : stepA P j s fun s2 => K s2 ∧ (∀ x, j.d ≠ some x → sget s2.sl x = sget s.sl x) ∧ (cls j.o ≤ 1 → s2.h = s.h) := by
  by_cases hc : cls j.o ≤ 1
  · obtain ⟨pre, v, hf⟩ := light_form (P := P) hc s
    have h1 := (hf s (fun _ _ => rfl) (.inr rfl) K hK).1 h
    refine (hf s (fun _ _ => rfl) (.inr rfl) _ ?_).2 ⟨h1.1, h1.2, fun x hx => ?_, fun _ => ?_⟩
    · rintro a b he ⟨q1, q2, q3⟩
      exact ⟨hK _ _ he q1, fun x hx => by rw [← he.1 x]; exact q2 x hx, fun hc => by rw [← he.2.1]; exact q3 hc⟩
    · cases hjd : j.d with
      | none => rfl
      | some d =>
        simp only [upd, sget_sset]
        rw [if_neg]
        rintro rfl
        exact hx hjd
    · cases j.d <;> rfl
  · have key : ∀ (sl : List (Nat × V)) (r : V) (hp : Heap) (n : Nat), (∀ i, sget sl i = sget s.sl i) → fin j.d sl K r hp n → fin j.d sl (fun s2 => K s2 ∧ (∀ x, j.d ≠ some x → sget s2.sl x = sget s.sl x) ∧ (cls j.o ≤ 1 → s2.h = s.h)) r hp n := by
      intro sl r hp n he hf
      cases hjd : j.d with
      | none => rw [hjd] at hf; exact ⟨hf, fun x _ => he x, fun h => (hc h).elim⟩
      | some d =>
        rw [hjd] at hf
        refine ⟨hf, fun x hx => ?_, fun h => (hc h).elim⟩
        simp only [sget_sset]
        rw [if_neg (fun e => hx (by rw [e])), he]
    unfold stepA at h ⊢
    split at h
    · exact stepO_mono (fun r hp n => key s.sl r hp n fun _ => rfl) h
    · rename_i jg want _
      unfold stepG at h ⊢
      split at h
      · rename_i b hb
        refine ⟨fun hbw => ?_, fun hbw => ?_⟩
        · refine stepO_mono (fun r hp n => key _ r hp n fun i => ?_) (h.1 hbw)
          exact sset_known (by rw [hb, hbw]) i
        · exact key _ _ _ _ (fun i => sset_known (by rw [hb, hbw]) i) (h.2 hbw)
      · exact ⟨h.1, key s.sl _ _ _ (fun _ => rfl) h.2⟩
      · exact h

def notIn (d : Option Nat) (l : List Nat) : Bool :=
  match d with
  | some d => !l.contains d
  | none => true
def apart : Option Nat → Option Nat → Bool
  | some a, some b => !(a == b)
  | _, _ => true

/-- May a light step be moved behind another? -/
def okPair (a i : AI) : Bool := Nat.ble (cls a.o) 1 && (Nat.beq (cls a.o) 0 || Nat.ble (cls i.o) 1) && notIn a.d (usesA i) && apart a.d i.d && notIn i.d (usesA a)

theorem swap {a i : AI} {s : St} {K : St → Prop} (hok : okPair a i = true) (hK : Resp K) (h : stepA P a s fun s1 => stepA P i s1 K) : stepA P i s fun s2 => stepA P a s2 K := by
  unfold okPair at hok
  simp only [Bool.and_eq_true] at hok
  obtain ⟨⟨⟨⟨h1, h2⟩, h3⟩, h4⟩, h5⟩ := hok
  have hc := Nat.le_of_ble_eq_true h1
  obtain ⟨pre, v, hf⟩ := light_form (P := P) hc s
  have hK1 : Resp fun s1 => stepA P i s1 K := fun _ _ he hk => stepA_resp hK he hk
  obtain ⟨hpre, hi⟩ := (hf s (fun _ _ => rfl) (.inr rfl) _ hK1).1 h
  have hi2 : stepA P i s fun s2 => K (upd s2 a.d v) := by
    cases had : a.d with
    | none => rw [had] at hi; exact hi
    | some d =>
      rw [had] at hi h3 h4
      refine frameA hK ?_ ?_ hi
      · simpa [notIn] using h3
      · intro he
        rw [he] at h4
        simp [apart] at h4
  have hKu : Resp fun s2 => K (upd s2 a.d v) := by
    intro x y he hk
    refine hK _ _ ?_ hk
    cases a.d with
    | none => exact he
    | some d => exact ⟨fun q => sset_eqv he.1 d v q, he.2.1, he.2.2⟩
  refine stepA_mono ?_ (stepA_post hKu hi2)
  rintro s2 ⟨q1, q2, q3⟩
  refine (hf s2 (fun x hx => (q2 x fun e => ?_).symm) ?_ K hK).2 ⟨hpre, q1⟩
  · rw [e] at h5
    simp [notIn] at h5
    exact h5 hx
  · rcases Bool.or_eq_true _ _ ▸ h2 with h | h
    · exact .inl (Nat.eq_of_beq_eq_true h)
    · exact .inr (q3 (Nat.le_of_ble_eq_true h))

theorem moveFront (f : Nat → AI) {K : St → Prop} (hK : Resp K) (i : Nat) (B : List Nat) : ∀ (A : List Nat) (s : St), (∀ a ∈ A, okPair (f a) (f i) = true) → VOps P ((A ++ i :: B).map f) s K → VOps P ((i :: (A ++ B)).map f) s K
  | [], _, _, h => h
  | a :: A, s, hok, h => by
    have h1 : stepA P (f a) s fun s1 => stepA P (f i) s1 fun s2 => VOps P ((A ++ B).map f) s2 K :=
      stepA_mono (fun s1 h1 => moveFront f hK i B A s1 (fun x hx => hok x (by simp [hx])) h1) h
    exact swap (hok a (by simp)) (VOps_resp hK) h1

theorem reorder (f : Nat → AI) (anc : Nat → Nat → Prop) {K : St → Prop} (hK : Resp K) : ∀ (l T : List Nat) (s : St), T.Nodup → l.Perm T → T.Pairwise (fun a i => okPair (f a) (f i) = true ∨ anc a i) → l.Pairwise (fun i a => ¬ anc a i) →
    VOps P (T.map f) s K → VOps P (l.map f) s K
  | [], T, s, _, hp, _, _, h => by
    have : T = [] := hp.symm.eq_nil
    subst this
    exact h
  | i :: l, T, s, hn, hp, hT, hl, h => by
    have hi : i ∈ T := hp.subset (by simp)
    obtain ⟨A, B, rfl⟩ := List.append_of_mem hi
    have hp' : l.Perm (A ++ B) := by
      have : (i :: l).Perm (i :: (A ++ B)) := hp.trans List.perm_middle
      exact this.cons_inv
    have hl' := List.pairwise_cons.1 hl
    have hok : ∀ a ∈ A, okPair (f a) (f i) = true := by
      intro a ha
      have hTA := (List.pairwise_append.1 hT).2.2 a ha i (by simp)
      rcases hTA with h | h
      · exact h
      · exact (hl'.1 a (hp'.symm.subset (by simp [ha])) h).elim
    have h1 := moveFront f hK i B A s hok h
    refine stepA_mono (fun s1 h1 => reorder f anc hK l (A ++ B) s1 ?_ hp' ?_ hl'.2 h1) h1
    · exact (List.perm_middle.nodup_iff.1 hn).of_cons
    · exact hT.sublist (by simp)

theorem nodup_perm : ∀ (l r : List Nat), l.Nodup → (∀ x ∈ l, x ∈ r) → r.length ≤ l.length → l.Perm r
  | [], r, _, _, h => by
    have : r = [] := List.eq_nil_of_length_eq_zero (by simpa using h)
    subst this; exact .nil
  | x :: l, r, hn, hs, hl => by
    obtain ⟨h1, h2⟩ := List.nodup_cons.1 hn
    obtain ⟨A, B, rfl⟩ := List.append_of_mem (hs x (by simp))
    have := nodup_perm l (A ++ B) h2 (fun y hy => by
      have := hs y (by simp [hy])
      simp only [List.mem_append, List.mem_cons] at this ⊢
      rcases this with h | rfl | h
      · exact .inl h
      · exact (h1 hy).elim
      · exact .inr h) (by simp at hl ⊢; omega)
    exact (this.cons x).trans List.perm_middle.symm
theorem nodup_le : ∀ (l r : List Nat), l.Nodup → (∀ x ∈ l, x ∈ r) → l.length ≤ r.length
  | [], _, _, _ => Nat.zero_le _
  | x :: l, r, hn, hs => by
    obtain ⟨h1, h2⟩ := List.nodup_cons.1 hn
    obtain ⟨A, B, rfl⟩ := List.append_of_mem (hs x (by simp))
    have := nodup_le l (A ++ B) h2 (fun y hy => by
      have := hs y (by simp [hy])
      simp only [List.mem_append, List.mem_cons] at this ⊢
      rcases this with h | rfl | h
      · exact .inl h
      · exact (h1 hy).elim
      · exact .inr h)
    simp at this ⊢; omega

/-! What the model's draw gives. -/

def Edge' (m : Region.Mode) (ops : Array Oper) (a i : Nat) : Prop := ∃ o e, ops[i]? = some o ∧ e ∈ o.after ∧ Region.binds m e = true ∧ e.on = a

inductive Anc (m : Region.Mode) (ops : Array Oper) : Nat → Nat → Prop
  | one {a i : Nat} (h : Edge' m ops a i) : Anc m ops a i
  | more {a b i : Nat} (h : Edge' m ops b i) (h' : Anc m ops a b) : Anc m ops a i

def BeforeR (m : Region.Mode) (ops : Array Oper) : List Nat → Prop
  | [] => True
  | i :: t => (∀ a, Edge' m ops a i → a ∈ t) ∧ BeforeR m ops t

theorem BeforeR.tail {m : Region.Mode} {ops : Array Oper} : ∀ {t1 t2 : List Nat}, BeforeR m ops (t1 ++ t2) → BeforeR m ops t2
  | [], _, h => h
  | _ :: _, _, h => BeforeR.tail h.2

theorem BeforeR.anc {m : Region.Mode} {ops : Array Oper} {a i : Nat} (h : Anc m ops a i) : ∀ {t : List Nat}, BeforeR m ops (i :: t) → a ∈ t := by
  induction h with
  | one h => intro t ht; exact ht.1 _ h
  | more h _ ih =>
    intro t ht
    obtain ⟨t1, t2, rfl⟩ := List.append_of_mem (ht.1 _ h)
    have := ih (BeforeR.tail ht.2)
    simp [this]

theorem BeforeR.pairwise {m : Region.Mode} {ops : Array Oper} : ∀ {t : List Nat}, BeforeR m ops t → t.Nodup → t.Pairwise fun a i => ¬ Anc m ops a i
  | [], _, _ => .nil
  | x :: t, h, hn => by
    obtain ⟨h1, h2⟩ := List.nodup_cons.1 hn
    refine .cons (fun y hy hanc => ?_) (BeforeR.pairwise h.2 h2)
    obtain ⟨t1, t2, rfl⟩ := List.append_of_mem hy
    have := BeforeR.anc hanc (BeforeR.tail h.2)
    exact h1 (by simp [this])

structure LInv (m : Region.Mode) (ops : Array Oper) (listed : Array Bool) (acc : List Nat) : Prop where
  size : listed.size = ops.size
  nodup : acc.Nodup
  mem : ∀ i, i ∈ acc ↔ listed[i]? = some true
  before : BeforeR m ops acc

theorem go_spec {m : Region.Mode} {ops : Array Oper} {T : List Nat} (hT : BeforeR m ops T) (hTm : ∀ i, i < ops.size → i ∈ T) (hTl : ∀ i ∈ T, i < ops.size) : ∀ (fuel t : Nat) (listed : Array Bool) (acc : List Nat), LInv m ops listed acc → acc.length + fuel = ops.size →
    ∃ acc', Region.linearise.go m ops fuel t listed acc = acc'.reverse ∧ acc'.Nodup ∧ BeforeR m ops acc' ∧ acc'.length = ops.size ∧ ∀ i ∈ acc', i < ops.size
  | 0, t, listed, acc, hi, hl => by
    refine ⟨acc, rfl, hi.nodup, hi.before, by simpa using hl, fun i h => ?_⟩
    have := (hi.mem i).1 h
    rw [← hi.size]
    exact (Array.getElem?_eq_some_iff.1 this).1
  | fuel + 1, t, listed, acc, hi, hl => by
    have hmem : ∀ i ∈ acc, i < ops.size := fun i h => by
      have := (hi.mem i).1 h
      rw [← hi.size]
      exact (Array.getElem?_eq_some_iff.1 this).1
    simp only [Region.linearise.go]
    generalize hrs : ((List.range ops.size).filter fun i => !listed.getD i true && ((ops[i]?).map (·.after.all fun e => !Region.binds m e || listed.getD e.on false)).getD false) = rs
    have hin : ∀ i, i ∈ rs ↔ i < ops.size ∧ listed[i]? = some false ∧ ∀ o, ops[i]? = some o → ∀ e ∈ o.after, Region.binds m e = true → listed[e.on]? = some true := by
      intro i
      rw [← hrs, List.mem_filter, List.mem_range]
      refine and_congr_right fun hlt => ?_
      have hs : i < listed.size := by rw [hi.size]; exact hlt
      rw [Bool.and_eq_true]
      have e1 : (!listed.getD i true) = true ↔ listed[i]? = some false := by
        simp only [Array.getD_eq_getD_getElem?, Array.getElem?_eq_getElem hs, Option.getD_some]
        cases listed[i] <;> simp
      rw [e1]
      refine and_congr_right fun _ => ?_
      simp only [Array.getElem?_eq_getElem hlt, Option.map_some, Option.getD_some, Array.all_eq_true']
      constructor
      · rintro h o ho e he hb
        injection ho with ho
        subst ho
        have := h e he
        rw [hb] at this
        simp only [Bool.not_true, Bool.false_or, Array.getD_eq_getD_getElem?] at this
        cases hq : listed[e.on]? with
        | none => rw [hq] at this; cases this
        | some b => rw [hq] at this; simp at this; rw [this]
      · intro h e he
        cases hb : Region.binds m e with
        | false => rfl
        | true => simp [Array.getD_eq_getD_getElem?, h _ rfl e he hb]
    have hne : rs ≠ [] := by
      intro h0
      have hsub : ∀ t : List Nat, BeforeR m ops t → (∀ i ∈ t, i < ops.size) → ∀ i ∈ t, i ∈ acc := by
        intro t
        induction t with
        | nil => intro _ _ i hi; cases hi
        | cons i t ih =>
          intro hb hl x hx
          have ih' := ih hb.2 fun y hy => hl y (List.mem_cons_of_mem _ hy)
          rcases List.mem_cons.1 hx with rfl | hx
          · have hlt := hl x List.mem_cons_self
            have hs : x < listed.size := by rw [hi.size]; exact hlt
            cases hbb : listed[x] with
            | true => exact (hi.mem x).2 (by rw [Array.getElem?_eq_getElem hs, hbb])
            | false =>
              have : x ∈ rs := (hin x).2 ⟨hlt, by rw [Array.getElem?_eq_getElem hs, hbb], fun o ho e he hbe => (hi.mem _).1 (ih' _ (hb.1 _ ⟨o, e, ho, he, hbe, rfl⟩))⟩
              rw [h0] at this
              cases this
          · exact ih' x hx
      have hall : ∀ i, i < ops.size → i ∈ acc := fun i hlt => hsub T hT hTl i (hTm i hlt)
      have hle : (List.range ops.size).length ≤ acc.length := nodup_le _ _ List.nodup_range fun i h => hall i (by simpa using h)
      simp at hle
      omega
    have hpos : 0 < rs.length := List.length_pos_iff.2 hne
    have hlt := Nat.mod_lt t hpos
    rw [List.getElem?_eq_getElem hlt]
    generalize hpick : rs[t % rs.length] = i
    have hi' := (hin i).1 (hpick ▸ List.getElem_mem hlt)
    obtain ⟨h1, h2, h3⟩ := hi'
    have hnot : i ∉ acc := fun h => by have := (hi.mem i).1 h; rw [h2] at this; cases this
    refine go_spec hT hTm hTl fuel _ _ _ ⟨by simp [hi.size], List.nodup_cons.2 ⟨hnot, hi.nodup⟩, fun j => ?_, fun a ⟨o, e, ho, he, hb, hon⟩ => ?_, hi.before⟩ (by simp; omega)
    · rw [List.mem_cons, hi.mem, Array.getElem?_setIfInBounds]
      constructor
      · rintro (rfl | h)
        · rw [if_pos rfl, if_pos (by rw [hi.size]; exact h1)]
        · split
          · rename_i hij; rw [← hij, h2] at h; cases h
          · exact h
      · intro h
        split at h
        · rename_i hij; exact .inl hij.symm
        · exact .inr h
    · rw [← hon]
      exact (hi.mem _).2 (h3 o ho e he hb)

theorem linearise_spec {m : Region.Mode} {ops : Array Oper} {T : List Nat} (hT : BeforeR m ops T) (hTm : ∀ i, i < ops.size → i ∈ T) (hTl : ∀ i ∈ T, i < ops.size) (t : Nat) : (Region.linearise m ops t).Perm (List.range ops.size) ∧ (Region.linearise m ops t).Pairwise fun i a => ¬ Anc m ops a i := by
  have h0 : ∀ i, i ∈ ([] : List Nat) ↔ (Array.replicate ops.size false)[i]? = some true := fun i => by
    simp only [List.not_mem_nil, false_iff]
    intro h
    rw [Array.getElem?_replicate] at h
    split at h
    · simp at h
    · cases h
  obtain ⟨acc, h1, h2, h3, h4, h5⟩ := go_spec hT hTm hTl ops.size t (Array.replicate ops.size false) [] ⟨by simp, .nil, h0, trivial⟩ (by simp)
  rw [Region.linearise, h1]
  constructor
  · refine (List.reverse_perm acc).trans ?_
    exact nodup_perm _ _ h2 (fun i hi => by simpa using h5 i hi) (by simp [h4])
  · rw [List.pairwise_reverse]
    exact h3.pairwise h2

def beforeB (m : Region.Mode) (ops : Array Oper) : List Nat → Bool
  | [] => true
  | i :: t => (match ops[i]? with | some o => o.after.toList.all fun e => !(Region.binds m e) || t.any (Nat.beq e.on) | none => true) && beforeB m ops t

theorem beforeB_spec {m : Region.Mode} {ops : Array Oper} : ∀ {t : List Nat}, beforeB m ops t = true → BeforeR m ops t
  | [], _ => trivial
  | i :: t, h => by
    simp only [beforeB, Bool.and_eq_true] at h
    refine ⟨?_, beforeB_spec h.2⟩
    rintro a ⟨o, e, ho, he, hb, rfl⟩
    have h1 := h.1
    rw [ho] at h1
    simp only [List.all_eq_true] at h1
    have h2 := h1 e (Array.mem_toList_iff.2 he)
    rw [hb] at h2
    simp only [Bool.not_true, Bool.false_or, List.any_eq_true] at h2
    obtain ⟨x, hx, hx2⟩ := h2
    rw [Nat.eq_of_beq_eq_true hx2]; exact hx

/-- The order that edges and chosen ways give. -/
inductive AncE (m : Region.Mode) (ops : Array Oper) (E : List (Nat × Nat)) : Nat → Nat → Prop
  | one {a i : Nat} (h : Edge' m ops a i ∨ (a, i) ∈ E) : AncE m ops E a i
  | more {a b i : Nat} (h : Edge' m ops b i ∨ (b, i) ∈ E) (h' : AncE m ops E a b) : AncE m ops E a i

/-- It, by reckoning: for each step the set of those before it, as a number. -/
def lookM : List (Nat × Nat) → Nat → Nat
  | [], _ => 0
  | p :: r, i => bif Nat.beq p.1 i then p.2 else lookM r i
def maskE (tab : List (Nat × Nat)) : List Nat → Nat
  | [] => 0
  | b :: r => (2 ^ b ||| lookM tab b) ||| maskE tab r
def preds (m : Region.Mode) (ops : Array Oper) (E : List (Nat × Nat)) (i : Nat) : List Nat :=
  (match ops[i]? with | some o => (o.after.toList.filter (Region.binds m)).map (·.on) | none => []) ++ (E.filter fun p => Nat.beq p.2 i).map (·.1)
def masks (m : Region.Mode) (ops : Array Oper) (E : List (Nat × Nat)) : List Nat → List (Nat × Nat) → List (Nat × Nat)
  | [], tab => tab
  | i :: r, tab => masks m ops E r ((i, maskE tab (preds m ops E i)) :: tab)
def ancM (tab : List (Nat × Nat)) (a i : Nat) : Bool := Nat.testBit (lookM tab i) a

theorem maskE_sound {m : Region.Mode} {ops : Array Oper} {E tab : List (Nat × Nat)} (ht : ∀ i a, (lookM tab i).testBit a = true → AncE m ops E a i) {i : Nat} : ∀ {l : List Nat}, (∀ b ∈ l, Edge' m ops b i ∨ (b, i) ∈ E) → ∀ a, (maskE tab l).testBit a = true → AncE m ops E a i
  | [], _, a, h => by simp [maskE] at h
  | b :: r, hl, a, h => by
    simp only [maskE, Nat.testBit_or, Bool.or_eq_true] at h
    rcases h with (h | h) | h
    · rw [Nat.testBit_two_pow] at h
      have : b = a := by simpa using h
      subst this
      exact .one (hl b List.mem_cons_self)
    · exact .more (hl b List.mem_cons_self) (ht b a h)
    · exact maskE_sound ht (fun x hx => hl x (List.mem_cons_of_mem _ hx)) a h

theorem masks_sound {m : Region.Mode} {ops : Array Oper} {E : List (Nat × Nat)} : ∀ (T : List Nat) {tab : List (Nat × Nat)}, (∀ i a, (lookM tab i).testBit a = true → AncE m ops E a i) → ∀ i a, (lookM (masks m ops E T tab) i).testBit a = true → AncE m ops E a i
  | [], _, h => h
  | x :: r, tab, h => masks_sound r fun i a hi => by
    simp only [lookM] at hi
    cases hb : Nat.beq x i with
    | false => rw [hb] at hi; exact h i a hi
    | true =>
      have := Nat.eq_of_beq_eq_true hb
      subst this
      rw [hb, cond_true] at hi
      refine maskE_sound h (fun b hb => ?_) a hi
      unfold preds at hb
      rcases List.mem_append.1 hb with hb | hb
      · split at hb
        · rename_i o ho
          obtain ⟨e, he, rfl⟩ := List.mem_map.1 hb
          obtain ⟨h1, h2⟩ := List.mem_filter.1 he
          exact .inl ⟨o, e, ho, Array.mem_toList_iff.1 h1, h2, rfl⟩
        · cases hb
      · obtain ⟨p, hp, rfl⟩ := List.mem_map.1 hb
        obtain ⟨h1, h2⟩ := List.mem_filter.1 hp
        have := Nat.eq_of_beq_eq_true h2
        rw [← this]
        exact .inr h1

theorem ancM_sound {m : Region.Mode} {ops : Array Oper} {E : List (Nat × Nat)} {T : List Nat} {a i : Nat} (h : ancM (masks m ops E T []) a i = true) : AncE m ops E a i :=
  masks_sound T (fun i a h => by simp [lookM] at h) i a h

theorem AncE.anc {m : Region.Mode} {ops : Array Oper} {a i : Nat} (h : AncE m ops [] a i) : Anc m ops a i := by
  induction h with
  | one h => exact .one (h.resolve_right (by simp))
  | more h _ ih => exact .more (h.resolve_right (by simp)) ih

/-! Orders of steps that do meet: each of the two ways. -/

def pos (x : Nat) : List Nat → Nat
  | [] => 0
  | a :: r => bif Nat.beq a x then 0 else pos x r + 1

theorem pos_pairwise : ∀ {l : List Nat}, l.Nodup → l.Pairwise fun x y => pos x l < pos y l
  | [], _ => .nil
  | a :: r, h => by
    obtain ⟨h1, h2⟩ := List.nodup_cons.1 h
    have ne : ∀ y ∈ r, Nat.beq a y = false := fun y hy => by
      cases hb : Nat.beq a y with
      | false => rfl
      | true => exact (h1 (Nat.eq_of_beq_eq_true hb ▸ hy)).elim
    refine .cons (fun y hy => ?_) ?_
    · simp only [pos, Nat.beq_refl, cond_true, ne y hy, cond_false]
      omega
    · refine (pos_pairwise h2).imp_of_mem fun hx hy hxy => ?_
      simp only [pos, ne _ hx, ne _ hy, cond_false]
      omega

def orient (l : List Nat) (p : Nat × Nat) : Nat × Nat := bif Nat.blt (pos p.1 l) (pos p.2 l) then p else (p.2, p.1)

def orients : List (Nat × Nat) → List (List (Nat × Nat))
  | [] => [[]]
  | p :: r => (orients r).map (p :: ·) ++ (orients r).map ((p.2, p.1) :: ·)

theorem orients_mem (l : List Nat) : ∀ (C : List (Nat × Nat)), C.map (orient l) ∈ orients C
  | [] => by simp [orients]
  | p :: r => by
    simp only [orients, List.map_cons, List.mem_append, List.mem_map]
    cases hb : Nat.blt (pos p.1 l) (pos p.2 l) with
    | true => exact .inl ⟨_, orients_mem l r, by simp [orient, hb]⟩
    | false => exact .inr ⟨_, orients_mem l r, by simp [orient, hb]⟩

theorem orient_lt {l : List Nat} {p : Nat × Nat} (hne : pos p.1 l ≠ pos p.2 l) : pos (orient l p).1 l < pos (orient l p).2 l := by
  unfold orient
  cases hb : Nat.blt (pos p.1 l) (pos p.2 l) with
  | true => exact Nat.le_of_ble_eq_true hb
  | false =>
    have : ¬ pos p.1 l < pos p.2 l := fun h => by
      have := Nat.ble_eq_true_of_le (show pos p.1 l + 1 ≤ pos p.2 l from h)
      rw [Nat.blt, this] at hb
      cases hb
    simp only [cond_false]
    omega

theorem pos_ne {l : List Nat} {x y : Nat} (hx : x ∈ l) (hxy : x ≠ y) (hn : l.Nodup) : pos x l ≠ pos y l := by
  induction l with
  | nil => cases hx
  | cons a r ih =>
    obtain ⟨h1, h2⟩ := List.nodup_cons.1 hn
    simp only [pos]
    by_cases ha : a = x
    · subst ha
      have : Nat.beq a y = false := by
        cases hb : Nat.beq a y with
        | false => rfl
        | true => exact (hxy (Nat.eq_of_beq_eq_true hb)).elim
      rw [Nat.beq_refl, this]; simp
    · have hax : Nat.beq a x = false := by
        cases hb : Nat.beq a x with
        | false => rfl
        | true => exact (ha (Nat.eq_of_beq_eq_true hb)).elim
      rw [hax]
      have hx' : x ∈ r := by
        rcases List.mem_cons.1 hx with h | h
        · exact (ha h.symm).elim
        · exact h
      cases hb : Nat.beq a y with
      | true => simp
      | false => simpa using ih hx' h2

end
end Go.Abs
