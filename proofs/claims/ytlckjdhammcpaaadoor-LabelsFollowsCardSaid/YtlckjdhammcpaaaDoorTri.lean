/-
  From abstract steps to the model's regions. No condition.
-/
import Derived.Test.YtlckjdhammcpaaaDoorComp
set_option linter.unusedVariables false
set_option linter.unusedSimpArgs false
namespace Go.Abs

structure Sim (N : Nat) (E : Env) (sl : List (Nat × V)) (a : Act) : Prop where
  size : a.tmps.size = N
  defers : a.defers = []
  slot : ∀ i, R E (sget sl i) (a.tmps.getD i Go.undef)

theorem sget_sset (sl : List (Nat × V)) (i : Nat) (v : V) (j : Nat) : sget (sset sl i v) j = if i = j then v else sget sl j := by
  induction sl with
  | nil =>
    simp only [sset, sget]
    by_cases h : i = j
    · subst h; simp
    · rw [if_neg h]
      have : Nat.beq i j = false := by cases hb : Nat.beq i j with
        | false => rfl
        | true => exact (h (Nat.eq_of_beq_eq_true hb)).elim
      rw [this]; rfl
  | cons p r ih =>
    simp only [sset]
    cases hb : Nat.beq p.1 i with
    | true =>
      have hp := Nat.eq_of_beq_eq_true hb
      simp only [cond_true, sget]
      by_cases h : i = j
      · subst h; simp
      · rw [if_neg h]
        have h1 : Nat.beq i j = false := by cases hb' : Nat.beq i j with
          | false => rfl
          | true => exact (h (Nat.eq_of_beq_eq_true hb')).elim
        rw [h1, hp, h1]; rfl
    | false =>
      rw [cond_false]
      cases hlt : Nat.blt p.1 i with
      | true =>
        rw [cond_true]
        simp only [sget]
        by_cases h : i = j
        · subst h; simp
        · rw [if_neg h]
          have h1 : Nat.beq i j = false := by cases hb' : Nat.beq i j with
            | false => rfl
            | true => exact (h (Nat.eq_of_beq_eq_true hb')).elim
          rw [h1]; rfl
      | false =>
      simp only [cond_false, sget, ih]
      cases hb' : Nat.beq p.1 j with
      | true =>
        have hp := Nat.eq_of_beq_eq_true hb'
        have : i ≠ j := fun e => by rw [← hp] at e; rw [e, Nat.beq_refl] at hb; cases hb
        simp [this]
      | false => rfl

theorem Sim.evr {N : Nat} {E : Env} {s : St} {a : Act} (h : Sim N E s.sl a) (hg : GlR E) : EvR E s a.eval := ⟨h.slot, fun _ => rfl, fun _ => rfl, fun _ => rfl, hg⟩

theorem Sim.mono {N : Nat} {E E' : Env} {sl : List (Nat × V)} {a : Act} (h : Sim N E sl a) (hx : Ext E E') : Sim N E' sl a := ⟨h.size, h.defers, fun i => (h.slot i).mono hx⟩

theorem Sim.set {N : Nat} {E : Env} {sl : List (Nat × V)} {a : Act} (h : Sim N E sl a) {d : Nat} {v : V} {x : Value} (hd : d < N) (hR : R E v x) : Sim N E (sset sl d v) (a.put (some d) x) := by
  refine ⟨by simp [Act.put, h.size], h.defers, fun i => ?_⟩
  rw [sget_sset]
  have hs := h.size
  by_cases hi : d = i
  · subst hi
    rw [if_pos rfl]
    have : (a.put (some d) x).tmps.getD d Go.undef = x := by simp [Act.put, Array.getD, hs, hd]
    rw [this]; exact hR
  · rw [if_neg hi]
    have : (a.put (some d) x).tmps.getD i Go.undef = a.tmps.getD i Go.undef := by
      simp only [Act.put, Array.getD_eq_getD_getElem?, Array.getElem?_setIfInBounds]
      rw [if_neg hi]
    rw [this]; exact h.slot i

/-- A slot whose bool is known. -/
theorem Sim.know {N : Nat} {E : Env} {sl : List (Nat × V)} {a : Act} (h : Sim N E sl a) {d : Nat} {b : Bool} (hd : sget sl d = .bool b) : Sim N E (sset sl d (.bool b)) a := by
  refine ⟨h.size, h.defers, fun i => ?_⟩
  rw [sget_sset]
  by_cases hi : d = i
  · subst hi; rw [if_pos rfl, ← hd]; exact h.slot d
  · rw [if_neg hi]; exact h.slot i

def dstOk (N : Nat) : Option Nat → Bool
  | none => true
  | some d => Nat.blt d N

def compG (ops : Array Oper) : Option (Nat × Bool) → Option (Option (Nat × Bool))
  | none => some none
  | some (j, want) => match (ops[j]?).bind (·.dst) with
    | some d => some (some (d, want))
    | none => none

def isTmp (d : Option Nat) : Operand → Bool
  | .tmp i => d == some i
  | _ => false

/-- Is what is written out only read? (It is handed to a call, or appended.) -/
def hintOf (ops : Array Oper) (d : Option Nat) : Bool := ops.toList.any fun o => match o.op with
  | .call { callee := .builtin .append, args, .. } => (args.toList.drop 1).any (isTmp d)
  | .call { callee := .value _, args, .. } => args.toList.any (isTmp d)
  | _ => false

def compA (P : Program) (B N : Nat) (ops : Array Oper) (o : Oper) : Option AI :=
  match compG ops o.guard with
  | some g => bif dstOk N o.dst then some ⟨o.dst, g, (compO P (hintOf ops o.dst) (o.dst.map fun d => B + d) o.op).getD .bad⟩ else none
  | none => none

theorem compO_bad {P : Program} {k : Res} {w : World} {O : Nat → Prop} {ρ : Nat → Loc} {s : St} {η : Operand → Value} {o : Oper} {hint : Bool} {d : Option Nat} (hr : HeapR w O ρ s.n s.h) (he : EvR (envOf w O ρ s.n s.h) s η)
    (hk : stepO P ((compO P hint d o.op).getD .bad) s k) : Done P k w O ρ s.h s.n ((execOp η o).run P w) := by
  cases hc : compO P hint d o.op with
  | none => rw [hc] at hk; exact hk.elim
  | some ao => rw [hc] at hk; exact compO_sound hc hr he hk

def VOps (P : Program) : List AI → St → (St → Prop) → Prop
  | [], s, K => K s
  | i :: r, s, K => stepA P i s fun s' => VOps P r s' K

section
variable {P : Program} {B N : Nat} {O : Nat → Prop} {ops : Array Oper} {Q : Exit → Act → World → Prop}

theorem fin_next {o : Oper} {a a' : Act} {w w' : World} {ρ ρ' : Nat → Loc} {s : St} {sl : List (Nat × V)} {K : St → Prop} {next : Act → World → Prop} {v : Value} {r : V} {h' : Heap} {n' : Nat} (hd : dstOk N o.dst = true) (hs : Sim N (envOf w O ρ s.n s.h) sl a)
    (hnext : ∀ ρ' (s' : St) a' w', HeapR w' O ρ' s'.n s'.h → Sim N (envOf w' O ρ' s'.n s'.h) s'.sl a' → Ext (envOf w O ρ s.n s.h) (envOf w' O ρ' s'.n s'.h) → K s' → next a' w')
    (hk : fin o.dst sl K r h' n') (hr : HeapR w' O ρ' n' h') (hR : R (envOf w' O ρ' n' h') r v) (hx : Ext (envOf w O ρ s.n s.h) (envOf w' O ρ' n' h')) (ha : a' = a.put o.dst v) : next a' w' := by
  subst ha
  have hs' := hs.mono hx
  unfold fin at hk
  cases hdst : o.dst with
  | none =>
    rw [hdst] at hk
    exact hnext ρ' ⟨sl, h', n'⟩ _ w' hr hs' hx hk
  | some d =>
    rw [hdst] at hk hd
    exact hnext ρ' ⟨sset sl d r, h', n'⟩ _ w' hr (hs'.set (Nat.le_of_ble_eq_true hd) hR) hx hk

theorem done_wp {o : Oper} {a : Act} {w : World} {ρ : Nat → Loc} {s : St} {sl : List (Nat × V)} {K : St → Prop} {next : Act → World → Prop} (hd : dstOk N o.dst = true) (hr : HeapR w O ρ s.n s.h) (hs : Sim N (envOf w O ρ s.n s.h) sl a)
    (hnext : ∀ ρ' (s' : St) a' w', HeapR w' O ρ' s'.n s'.h → Sim N (envOf w' O ρ' s'.n s'.h) s'.sl a' → Ext (envOf w O ρ s.n s.h) (envOf w' O ρ' s'.n s'.h) → K s' → next a' w')
    (h : Done P (fin o.dst sl K) w O ρ s.h s.n ((execOp a.eval o).run P w)) : o.wp P a w next Q := by
  unfold Oper.wp
  generalize (execOp a.eval o).run P w = res at h
  unfold Done at h
  split at h
  · obtain ⟨r, h', n', ρ', hk, hr', hR, hx⟩ := h
    exact fin_next hd hs hnext hk hr' hR hx rfl
  · obtain ⟨r, h', n', ρ', hk, hr', hR, hx⟩ := h
    exact fin_next hd hs hnext hk hr' hR hx rfl
  · obtain ⟨rfl, as, hRL, hcall⟩ := h
    refine (hcall _ O ρ _ hr hRL).mono ?_
    rintro e w' ⟨v, r, h', n', ρ', rfl, hk, hr', hR, hx⟩
    exact fin_next hd hs hnext hk hr' hR hx rfl
  · exact h.elim

theorem stepA_sound {o : Oper} {i : AI} {a : Act} {w : World} {ρ : Nat → Loc} {s : St} {K : St → Prop} {next : Act → World → Prop} (hc : compA P B N ops o = some i) (hr : HeapR w O ρ s.n s.h) (hs : Sim N (envOf w O ρ s.n s.h) s.sl a)
    (hk : stepA P i s K)
    (hnext : ∀ ρ' (s' : St) a' w', HeapR w' O ρ' s'.n s'.h → Sim N (envOf w' O ρ' s'.n s'.h) s'.sl a' → Ext (envOf w O ρ s.n s.h) (envOf w' O ρ' s'.n s'.h) → K s' → next a' w') :
    if Region.wanted o (yielded ops a.tmps) then o.wp P a w next Q else next (a.put o.dst Go.undef) w := by
  unfold compA at hc
  split at hc
  · rename_i g hg
    cases hd : dstOk N o.dst with
    | false => rw [hd] at hc; cases hc
    | true =>
      rw [hd, cond_true] at hc
      injection hc with hc
      subst hc
      unfold compG at hg
      cases hgd : o.guard with
      | none =>
        rw [hgd] at hg
        injection hg with hg
        subst hg
        simp only [stepA] at hk
        have hw : Region.wanted o (yielded ops a.tmps) = true := by simp [Region.wanted, hgd]
        rw [hw, if_pos rfl]
        exact done_wp hd hr hs hnext (compO_bad hr (hs.evr hr.gl) hk)
      | some q =>
        obtain ⟨j, want⟩ := q
        rw [hgd] at hg
        simp only at hg
        split at hg
        · rename_i dj hdj
          injection hg with hg
          subst hg
          simp only [stepA, stepG] at hk
          split at hk
          · rename_i b hb
            have hslot := hs.slot dj
            rw [hb] at hslot
            have hv := hslot.bool_inv
            have hlt : dj < a.tmps.size := by
              rcases Nat.lt_or_ge dj a.tmps.size with h | h
              · exact h
              · rw [Array.getD_eq_getD_getElem?, Array.getElem?_eq_none h] at hv; cases hv
            have hget : a.tmps[dj]? = some (.bool b) := by
              rw [Array.getD_eq_getD_getElem?] at hv
              simp only [Array.getElem?_eq_getElem hlt] at hv ⊢
              simpa using hv
            have hy : yielded ops a.tmps j = some b := by simp [yielded, hdj, hget]
            have hw : Region.wanted o (yielded ops a.tmps) = (b == want) := by simp [Region.wanted, hgd, hy]
            rw [hw]
            by_cases hbw : b = want
            · subst hbw
              rw [if_pos (by simp)]
              have hs1 := hs.know hb
              exact done_wp (s := ⟨sset s.sl dj (.bool b), s.h, s.n⟩) hd hr hs1 hnext (compO_bad (s := ⟨sset s.sl dj (.bool b), s.h, s.n⟩) hr (Sim.evr (s := ⟨sset s.sl dj (.bool b), s.h, s.n⟩) hs1 hr.gl) (hk.1 rfl))
            · rw [if_neg (by simpa using hbw)]
              have hbw' : b = !want := by cases b <;> cases want <;> simp_all
              have hs1 := hs.know hb
              have hk2 := hk.2 hbw'
              rw [← hbw'] at hk2
              exact fin_next hd hs1 hnext hk2 hr (.cst _) (Ext.refl _) rfl
          · rename_i u hu
            obtain ⟨hnb, hk2⟩ := hk
            have hslot := hs.slot dj
            rw [hu] at hslot
            have hv : a.tmps.getD dj Go.undef = u := hslot.cst_inv
            have hy : yielded ops a.tmps j = none := by
              simp only [yielded, hdj]
              rw [Array.getD_eq_getD_getElem?] at hv
              cases hq : a.tmps[dj]? with
              | none => simp [hq]
              | some x =>
                rw [hq] at hv
                simp only [Option.getD_some] at hv
                subst hv
                cases x <;> first | (cases hnb; done) | simp [hq]
            have hw : Region.wanted o (yielded ops a.tmps) = false := by simp [Region.wanted, hgd, hy]
            rw [hw, if_neg (by simp)]
            exact fin_next hd hs hnext hk2 hr (.cst _) (Ext.refl _) rfl
          · exact hk.elim
        · cases hg
  · cases hc

/-- The whole region, in the order of a list. -/
theorem ops_sound : ∀ (l : List Nat) (is : List AI) (a : Act) (w : World) (ρ : Nat → Loc) (s : St) (K : St → Prop), is.length = l.length → (∀ (q : Nat) j, l[q]? = some j → ∃ o i, ops[j]? = some o ∧ is[q]? = some i ∧ compA P B N ops o = some i) →
    HeapR w O ρ s.n s.h → Sim N (envOf w O ρ s.n s.h) s.sl a → VOps P is s K →
    (∀ ρ' (s' : St) a' w', HeapR w' O ρ' s'.n s'.h → Sim N (envOf w' O ρ' s'.n s'.h) s'.sl a' → Ext (envOf w O ρ s.n s.h) (envOf w' O ρ' s'.n s'.h) → K s' → Q .normal a' w') → wpOps P ops Q l a w
  | [], is, a, w, ρ, s, K, hl, _, hr, hs, hk, hq => by
    have : is = [] := List.eq_nil_of_length_eq_zero (by simpa using hl)
    subst this
    exact hq ρ s a w hr hs (Ext.refl _) hk
  | j :: l, is, a, w, ρ, s, K, hl, hc, hr, hs, hk, hq => by
    obtain ⟨o, i, ho, hi, hcomp⟩ := hc 0 j rfl
    cases is with
    | nil => cases hi
    | cons i' is =>
      simp at hi
      subst hi
      simp only [wpOps, ho]
      have step := stepA_sound (Q := Q) (next := wpOps P ops Q l) hcomp hr hs hk fun ρ' s' a' w' hr' hs' hx' hk' =>
        ops_sound l is a' w' ρ' s' K (by simpa using hl) (fun q j' hj => hc (q + 1) j' (by simpa using hj)) hr' hs' hk' fun ρ2 s2 a2 w2 hr2 hs2 hx2 hk2 => hq ρ2 s2 a2 w2 hr2 hs2 (hx'.trans hx2) hk2
      split at step
      · rename_i hw; rw [if_pos hw]; exact .inl step
      · rename_i hw; rw [if_neg hw]; exact step

end
end Go.Abs
