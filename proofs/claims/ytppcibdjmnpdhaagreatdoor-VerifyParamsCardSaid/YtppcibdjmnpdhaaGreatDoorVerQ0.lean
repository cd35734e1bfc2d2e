/-
  A function with fewer parameters: well-formed, lower states, accepted only if the function is. No condition.
-/
import Derived.Test.YtppcibdjmnpdhaaGreatDoorVerEj
set_option linter.unusedVariables false
set_option linter.unusedSimpArgs false
set_option maxRecDepth 100000
set_option maxHeartbeats 0
namespace Go.Proofs.YtppcibdjmnpdhaaGreatDoor
open Go.Abs
def Lower : Option Stt → Option Stt → Prop
  | none, none => True
  | some s, some t => t.opn = s.opn ∧ t.marks = s.marks ∧ ∀ r, t.set r = true → s.set r = true
  | _, _ => False
theorem passF_low {N : Nat} {i : Ins} {a b : Int} {s t : Stt} (h : Lower (some s) (some t)) : Lower (some (passF N i a b s)) (some (passF N i a b t)) := by
  obtain ⟨h1, h2, h3⟩ := h
  have he : ∀ r, (effF N i t).set r = true → (effF N i s).set r = true := fun r hr => by
    simp only [effF, effW, Bool.and_eq_true, Bool.or_eq_true] at hr ⊢
    refine ⟨hr.1, ?_, hr.2.2⟩
    rcases hr.2.1 with h | h
    · left
      unfold effS at h ⊢
      split
      · rename_i c; rw [if_pos c] at h; simp only [Bool.and_eq_true] at h ⊢; exact ⟨h3 r h.1, h.2⟩
      · rename_i c
        rw [if_neg c] at h
        split
        · rename_i d; rw [if_pos d] at h; simp only [Bool.and_eq_true] at h ⊢; exact ⟨h3 r h.1, h.2⟩
        · rename_i d; rw [if_neg d] at h; exact h3 r h
    · exact .inr h
  refine ⟨by rw [passF_opn, passF_opn], by rw [passF_marks, passF_marks, h2], fun r hr => ?_⟩
  unfold passF at hr ⊢
  by_cases c : endsB i a b = true ∧ s.set (i.a + 3).toNat = false
  · have d : t.set (i.a + 3).toNat = false := by
      cases hd : t.set (i.a + 3).toNat with
      | false => rfl
      | true => have := h3 _ hd; rw [c.2] at this; cases this
    rw [if_pos ⟨c.1, d⟩] at hr
    rw [if_pos c]
    simp only [Bool.and_eq_true] at hr ⊢
    exact ⟨he r hr.1, hr.2⟩
  · rw [if_neg c]
    split at hr
    · simp only [Bool.and_eq_true] at hr; exact he r hr.1
    · exact he r hr
def LowM (M M' : Nat → Option Stt) : Prop := ∀ k, Lower (M k) (M' k)
theorem Lower.none {o : Option Stt} (h : Lower none o) : o = none := by
  cases o with
  | none => rfl
  | some s => cases h
theorem Lower.some {s : Stt} {o : Option Stt} (h : Lower (.some s) o) : ∃ t, o = .some t := by
  cases o with
  | none => cases h
  | some t => exact ⟨t, rfl⟩
theorem LowM.upd {M M' : Nat → Option Stt} {b : Nat} {s t : Stt} (h : LowM M M') (hs : Lower (.some s) (.some t)) : LowM (updM M b s) (updM M' b t) := fun k => by
  unfold updM
  by_cases c : k = b
  · rw [if_pos c, if_pos c]; exact hs
  · rw [if_neg c, if_neg c]; exact h k
theorem LowM.step {N : Nat} {code : List Ins} {M M' : Nat → Option Stt} {e : Nat × Int} (h : LowM M M') : LowM (stepM N code M e) (stepM N code M' e) := by
  have ha := h e.1
  have hb := h e.2.toNat
  cases h1 : M e.1 with
  | none =>
    rw [h1] at ha
    have h2 := ha.none
    simp only [stepM, h1, h2]; exact h
  | some s =>
    rw [h1] at ha
    obtain ⟨t, h2⟩ := ha.some
    rw [h2] at ha
    cases h3 : M e.2.toNat with
    | none =>
      rw [h3] at hb
      have h4 := hb.none
      simp only [stepM, h1, h2, h3, h4]
      exact h.upd (passF_low ha)
    | some o =>
      rw [h3] at hb
      obtain ⟨o', h4⟩ := hb.some
      rw [h4] at hb
      simp only [stepM, h1, h2, h3, h4]
      have hp := passF_low (N := N) (i := insAt code e.1) (a := e.1) (b := e.2) ha
      exact h.upd ⟨hb.1, hb.2.1, fun r hr => by
        simp only [joinF, Bool.and_eq_true] at hr ⊢
        exact ⟨hb.2.2 r hr.1, hp.2.2 r hr.2⟩⟩
theorem LowM.fold {N : Nat} {code : List Ins} : ∀ (l : List (Nat × Int)) {M M' : Nat → Option Stt}, LowM M M' → LowM (l.foldl (stepM N code) M) (l.foldl (stepM N code) M')
  | [], _, _, h => h
  | _ :: l, _, _, h => LowM.fold l h.step
theorem LowM.iter {N : Nat} {code : List Ins} {p q : Int} (h : q ≤ p) : ∀ j, LowM (iterM N code p j) (iterM N code q j)
  | 0 => fun k => by
    simp only [iterM, M0]
    by_cases c : k = 0
    · rw [if_pos c, if_pos c]
      refine ⟨rfl, rfl, fun r hr => ?_⟩
      simp only [entF, Bool.and_eq_true, decide_eq_true_eq] at hr ⊢
      exact ⟨hr.1, by omega⟩
    · rw [if_neg c, if_neg c]; trivial
  | j + 1 => LowM.fold _ (LowM.iter h j)
theorem StIs.low {N : Nat} {code : List Ins} {p q : Int} {M M' : Nat → Option Stt} (h : StIs N code p M) (h' : StIs N code q M') (hq : q ≤ p) : LowM M M' := by
  obtain ⟨j, rfl, h1⟩ := h
  obtain ⟨k, rfl, h2⟩ := h'
  have := LowM.iter (N := N) (code := code) hq (j + k)
  rwa [iter_fix h1, Nat.add_comm, iter_fix h2] at this
def Fn.par (p : Fn) (v : Int) : Fn := ⟨p.name, p.line, v, p.vararg, p.regs, p.code, p.lines, p.consts, p.protos, p.ups, p.vars⟩
theorem Fn.par_each (p : Fn) (v : Int) : (p.par v).each = p.par v :: Fn.eachs p.protos := by rw [Fn.each_eq]; rfl
theorem Fn.par_depth (p : Fn) (v : Int) : (p.par v).depth = p.depth := by rw [Fn.depth_eq, Fn.depth_eq p]; rfl
theorem Fn.bd.par {p : Fn} (h : p.bd) (v : Int) : (p.par v).bd := fun q hq => by
  rw [Fn.par_each] at hq
  rcases List.mem_cons.1 hq with rfl | hq
  · have := h p (Fn.self_mem p)
    exact ⟨this.code, this.lines, this.consts, this.protos, this.ups, this.vars⟩
  · exact h q (by rw [Fn.each_eq]; exact List.mem_cons_of_mem _ hq)
theorem sglE_par {p : Fn} {v : Int} (h : sglE p = 0) (h0 : 0 ≤ v) (h1 : v ≤ p.params) : sglE (p.par v) = 0 := by
  obtain ⟨l, f, i, q⟩ := sglE_parts h
  have f2 : formE (p.par v) = 0 := by
    unfold formE at f ⊢
    split at f
    · rename_i F
      obtain ⟨c1, c2, c3, c4, c5, c6, c7, c8, c9, c10⟩ := F
      exact if_pos ⟨c1, c2, h0, c4, (by show v ≤ p.regs; omega), c6, c7, c8, c9, c10⟩
    · omega
  have l2 : limE (p.par v) = 0 := l
  have i2 : firstNZ ((p.par v).code.map (instE (p.par v))) = 0 := firstNZ_iff.2 fun x hx => by
    obtain ⟨j, hj, rfl⟩ := List.mem_map.1 hx
    exact i j hj
  have q2 : (p.par v).protos.any (badQ (p.par v)) = false := q
  unfold sglE
  rw [if_neg (by simpa using l2), if_neg (by simpa using f2), if_neg (by simpa using i2)]
  exact if_neg (by rw [q2]; decide)
theorem chkE_par {p : Fn} {v : Int} (h : chkE p = 0) (h0 : 0 ≤ v) (h1 : v ≤ p.params) : chkE (p.par v) = 0 := by
  rw [chkE_iff] at h ⊢
  rw [Fn.par_depth, Fn.par_each]
  refine ⟨h.1, fun q hq => ?_⟩
  rcases List.mem_cons.1 hq with rfl | hq
  · exact sglE_par (h.2 p (Fn.self_mem p)) h0 h1
  · exact h.2 q (by rw [Fn.each_eq]; exact List.mem_cons_of_mem _ hq)
theorem par_low {p : Fn} {v : Int} (hs : Sound p) (h1 : v ≤ p.params) : LowM (stOf p) (stOf (p.par v)) :=
  StIs.low (N := p.regs.toNat) (code := p.code) (stM_is hs.code0) (stM_is (params := v) hs.code0) h1
theorem violF_low {p : Fn} {v : Int} {M M' : Nat → Option Stt} (h : LowM M M') {a : Nat} (hv : violF (p.par v) M' a = false) : violF p M a = false := by
  have ha := h a
  unfold violF at hv ⊢
  cases hm : M a with
  | none => rfl
  | some s =>
    rw [hm] at ha
    obtain ⟨t, ht⟩ := ha.some
    rw [ht] at ha hv
    obtain ⟨e1, e2, e3⟩ := ha
    have hr : readsF (p.par v) (insAt p.code a) t = true → readsF p (insAt p.code a) s = true := fun hr => by
      unfold readsF at hr ⊢
      rw [e1] at hr
      simp only [Bool.and_eq_true, Bool.not_eq_true'] at hr ⊢
      refine ⟨hr.1, List.any_eq_false.2 fun r hm => ?_⟩
      have h4 := List.any_eq_false.1 hr.2 r (by
        unfold readsL at hm ⊢
        rw [e1]; exact hm)
      simp only [Bool.not_eq_true', Bool.not_eq_false] at h4 ⊢
      exact e3 _ h4
    have hb : ∀ x, badE p.code M' a (insAt p.code a) t x = false → badE p.code M a (insAt p.code a) s x = false := fun x hx => by
      have hx2 := h x.toNat
      unfold badE at hx ⊢
      cases hmx : M x.toNat with
      | none =>
        rw [hmx] at hx2
        rw [hx2.none] at hx; simp at hx
      | some o =>
        rw [hmx] at hx2
        obtain ⟨o', ho'⟩ := hx2.some
        rw [ho'] at hx hx2
        obtain ⟨g1, g2, _⟩ := hx2
        simp only at hx ⊢
        rw [g1, g2, e2] at hx
        exact hx
    simp only [Bool.or_eq_false_iff, Bool.not_eq_false'] at hv ⊢
    obtain ⟨v1, v2, v3, v4, v5⟩ := hv
    refine ⟨v1, hr v2, ?_, ?_, ?_⟩
    · rw [← e2]; exact v3
    · rw [← e2]; exact v4
    · refine List.any_eq_false.2 fun x hx => ?_
      have := List.any_eq_false.1 v5 x hx
      rw [Bool.not_eq_true] at this ⊢
      exact hb x this
theorem verE_par {p : Fn} {v : Int} (hc : chkE p = 0) (h1 : v ≤ p.params) (h : verE (p.par v) = 0) : verE p = 0 := by
  have hs := Sound.of hc
  rw [verE_iff] at h ⊢
  rw [Fn.par_each] at h
  refine ⟨hc, fun x hx => ?_⟩
  rw [Fn.each_eq] at hx
  rcases List.mem_cons.1 hx with rfl | hx
  · have h2 := h.2 _ List.mem_cons_self
    rw [firstF_none] at h2 ⊢
    exact fun a ha => violF_low (par_low hs h1) (h2 a ha)
  · exact h.2 x (List.mem_cons_of_mem _ hx)
def setAt : Option Stt → Nat → Bool
  | none, _ => false
  | some s, r => s.set r
theorem Lower.set {o o' : Option Stt} (h : Lower o o') {r : Nat} (hr : setAt o' r = true) : setAt o r = true := by
  cases o with
  | none => rw [h.none] at hr; exact hr
  | some s =>
    obtain ⟨t, rfl⟩ := h.some
    exact h.2.2 r hr
end Go.Proofs.YtppcibdjmnpdhaaGreatDoor
