/-
  The abstract meaning of cuts of slices and strings is the model's. No condition.
-/
import Derived.Test.YtlckjdhammcpaaaDoorSndH
set_option linter.unusedVariables false
set_option linter.unusedSimpArgs false
namespace Go.Abs
section
variable {P : Program} {k : Res} {w : World} {O : Nat → Prop} {ρ : Nat → Loc} {s : St} {η : Operand → Value} {o : Oper}

def compXo : Option Operand → Option (Option Opd)
  | none => some none
  | some x => (compX x).map some

theorem bound_inv {E : Env} (he : EvR E s η) {x : Option Operand} {x' : Option Opd} (hx : compXo x = some x') {d z : Int} (hb : boundV d (x'.map s.ev) = some z) : (x = none ∧ z = d) ∨ ∃ y j, x = some y ∧ η y = .int j z := by
  cases x with
  | none =>
    simp [compXo] at hx; subst hx
    simp [boundV] at hb
    exact .inl ⟨rfl, hb.symm⟩
  | some y =>
    simp only [compXo, Option.map_eq_some_iff] at hx
    obtain ⟨y', hy, rfl⟩ := hx
    have hR := he.ev hy
    simp only [Option.map_some] at hb
    generalize s.ev y' = v at *
    unfold boundV at hb
    split at hb
    · rename_i h; cases h
    · rename_i j z' h
      injection hb with hb
      injection h with h
      subst h; subst hb
      exact .inr ⟨y, j, rfl, hR.int_inv⟩
    · cases hb

theorem run_sliceBounds {lo hi : Option Operand} {isSl : Bool} {len cap : Nat} {l u : Int} (hl : (lo = none ∧ l = 0) ∨ ∃ y j, lo = some y ∧ η y = .int j l) (hu : (hi = none ∧ u = len) ∨ ∃ y j, hi = some y ∧ η y = .int j u)
    (h0 : 0 ≤ l) (h1 : l ≤ u) (h2 : u ≤ cap) (w : World) : (Instr.sliceBounds isSl len cap (lo.map η) (hi.map η) none).run P w = .ok (l.toNat, u.toNat, cap) w := by
  have hu0 : 0 ≤ u := Int.le_trans h0 h1
  have hlu : l ≤ (u.toNat : Int) := by omega
  have hlu' : l ≤ max u 0 := by omega
  rcases hl with ⟨rfl, rfl⟩ | ⟨y, j, rfl, hy⟩ <;> rcases hu with ⟨rfl, rfl⟩ | ⟨y', j', rfl, hy'⟩
  · simp [Instr.sliceBounds]
  · simp [Instr.sliceBounds, Instr.sliceBound, asIntOf, hy', hu0, h2]
  · simp [Instr.sliceBounds, Instr.sliceBound, asIntOf, hy, h0, h1]
  · simp [Instr.sliceBounds, Instr.sliceBound, asIntOf, hy, hy', h0, hu0, h2, hlu']

theorem snd_slc {x : Operand} {lo hi : Option Operand} {x' : Opd} {lo' hi' : Option Opd} {t e : TypeId} {ti : TypeInfo} (ho : o.op = .slice t x lo hi none) (ht : P.underlying t = some (.slice e)) (hi0 : P.info? e = some ti)
    (hx : compX x = some x') (hlo : compXo lo = some lo') (hhi : compXo hi = some hi')
    (hr : HeapR w O ρ s.n s.h) (he : EvR (envOf w O ρ s.n s.h) s η) (hk : stepO P (.slc ti.size x' lo' hi') s k) : Done P k w O ρ s.h s.n ((execOp η o).run P w) := by
  have hx := he.ev hx
  simp only [stepO] at hk
  generalize s.ev x' = vx at *
  have key : ∀ (a : Option Addr) (len cap : Nat) (l u : Int), η x = .slice a len cap → ((lo = none ∧ l = 0) ∨ ∃ y j, lo = some y ∧ η y = .int j l) → ((hi = none ∧ u = len) ∨ ∃ y j, hi = some y ∧ η y = .int j u) → 0 ≤ l → l ≤ u → u ≤ cap →
      (execOp η o).run P w = .ok (.value (.slice (if cap = l.toNat then a else a.map (·.add (l.toNat * ti.size))) (u.toNat - l.toNat) (cap - l.toNat))) w := by
    intro a len cap l u hv hl hu h0 h1 h2
    have hb := run_sliceBounds (P := P) (isSl := true) (len := len) hl hu h0 h1 h2 w
    simp [execOp, ho, Instr.sliceAt, run_underlying ht, Instr.slice, hv, hb, sizeOf, typeInfo, hi0]
  unfold slcK at hk
  split at hk
  · rename_i b st i m
    split at hk
    · rename_i l u hl hu
      obtain ⟨hsz, h0, h1, h2, hk⟩ := hk
      have hl' := bound_inv he hlo hl
      have hu' := bound_inv he hhi hu
      generalize hvx : η x = vv at hx
      have hsz : (ρ st).sz = ti.size := by
        unfold blkSz at hsz
        split at hsz
        · rename_i sz rs hg
          injection hsz with hsz
          subst hsz
          exact (hr.blk _ (Heap.mem_of_get hg)).1
        · cases hsz
      cases hx with
      | sl _ _ _ _ cap hst hn hc =>
        rw [key _ _ _ l u hvx hl' hu' h0 h1 (by omega)]
        refine Done.val hr hk ?_
        have e1 : u.toNat - l.toNat = (u - l).toNat := by omega
        rw [e1]
        by_cases hcl : cap = l.toNat
        · rw [if_pos hcl]
          have : (u - l).toNat = 0 := by omega
          rw [this, hcl, Nat.sub_self]
          exact .sl0 _ _ _ _
        · rw [if_neg hcl]
          have := R.sl (E := envOf w O ρ s.n s.h) b st (i + l.toNat) (u - l).toNat (cap - l.toNat) hst (by omega) (by show _ ≤ (ρ st).cap; have hc' : i + cap ≤ (ρ st).cap := hc; omega)
          simp only [Option.map_some, add_lit]
          have e2 : (ρ st).off + i * (ρ st).sz + l.toNat * ti.size = (ρ st).off + (i + l.toNat) * (ρ st).sz := by rw [hsz, Nat.add_mul]; omega
          rw [e2]
          exact this
      | sl0 _ _ _ a =>
        have hl0 : l = 0 := by omega
        have hu0 : u = 0 := by omega
        subst hl0; subst hu0
        rw [key _ _ _ 0 0 hvx hl' hu' (by omega) (by omega) (by omega)]
        refine Done.val hr hk ?_
        exact .sl0 _ _ _ _
    · exact hk.elim
  · rename_i es
    split at hk
    · rename_i l u hl hu
      obtain ⟨hsz, h0, h1, h2, hk⟩ := hk
      have hl' := bound_inv he hlo hl
      have hu' := bound_inv he hhi hu
      generalize hvx : η x = vv at hx
      have elen : ((es.drop l.toNat).take (u - l).toNat).length = u.toNat - l.toNat := by simp; omega
      cases hx with
      | isl _ p cap sz f hp hcap hrow hcell hR =>
        rw [key _ _ _ l u hvx hl' hu' h0 h1 (by omega)]
        refine Done.val hr hk ?_
        rw [← elen]
        by_cases hcl : cap = l.toNat
        · rw [if_pos hcl]
          have : (es.drop l.toNat).take (u - l).toNat = [] := List.eq_nil_of_length_eq_zero (by rw [elen]; omega)
          rw [this]
          exact .isl0 _ _
        · rw [if_neg hcl]
          simp only [Option.map_some]
          obtain ⟨pb, po, ps⟩ := p
          simp only at hp
          subst hp
          rw [add_lit]
          by_cases he0 : es = []
          · subst he0; simp; exact .isl0 _ _
          · have hs : sz = ti.size := by
              obtain ⟨r, es', rfl⟩ := List.exists_cons_of_ne_nil he0
              rw [← hrow 0 r rfl, ← hsz r (by simp)]
            subst hs
            have sub : ∀ {i : Nat} {row : List V}, ((es.drop l.toNat).take (u - l).toNat)[i]? = some row → es[l.toNat + i]? = some row := by
              intro i row hi
              rw [List.getElem?_take] at hi
              split at hi
              · rwa [List.getElem?_drop] at hi
              · cases hi
            refine .isl _ ⟨pb, po + l.toNat * ti.size, none⟩ (cap - l.toNat) ti.size (fun i j => f (l.toNat + i) j) rfl (by rw [elen]; omega) (fun i row hi => hrow _ row (sub hi)) (fun i row j c hi hj => ?_) (fun i row j c hi hj => hR _ row j c (sub hi) hj)
            have := hcell _ row j c (sub hi) hj
            rw [Nat.add_mul, ← Nat.add_assoc] at this
            exact this
      | isl0 a cap =>
        simp at h2
        have hl0 : l = 0 := by omega
        have hu0 : u = 0 := by omega
        subst hl0; subst hu0
        rw [key _ _ _ 0 0 hvx hl' hu' (by omega) (by omega) (by omega)]
        refine Done.val hr hk ?_
        simp
        exact .isl0 _ _
    · exact hk.elim
  · split at hk
    · rename_i l u hl hu
      obtain ⟨rfl, rfl, hk⟩ := hk
      have hl' := bound_inv he hlo hl
      have hu' := bound_inv he hhi hu
      rw [key _ _ _ 0 0 hx.nils_inv hl' hu' (by omega) (by omega) (by omega)]
      refine Done.val hr hk ?_
      exact .nils
    · exact hk.elim
  · exact hk.elim

theorem snd_sls {x : Operand} {lo hi : Option Operand} {x' : Opd} {lo' hi' : Option Opd} {t : TypeId} (ho : o.op = .slice t x lo hi none) (ht : P.underlying t = some .string)
    (hx : compX x = some x') (hlo : compXo lo = some lo') (hhi : compXo hi = some hi')
    (hr : HeapR w O ρ s.n s.h) (he : EvR (envOf w O ρ s.n s.h) s η) (hk : stepO P (.sls x' lo' hi') s k) : Done P k w O ρ s.h s.n ((execOp η o).run P w) := by
  have hx := he.ev hx
  simp only [stepO] at hk
  generalize s.ev x' = vx at *
  unfold slsK at hk
  split at hk
  · rename_i b
    split at hk
    · rename_i l u hl hu
      obtain ⟨h0, h1, h2, hk⟩ := hk
      have hl' := bound_inv he hlo hl
      have hu' := bound_inv he hhi hu
      have hb := run_sliceBounds (P := P) (isSl := false) (len := b.length) (cap := b.length) hl' hu' h0 h1 h2 w
      have hsz : (⟨⟨b⟩⟩ : ByteArray).size = b.length := rfl
      have hrun : (execOp η o).run P w = .ok (.value (.string ((⟨⟨b⟩⟩ : ByteArray).extract l.toNat u.toNat))) w := by
        simp [execOp, ho, Instr.sliceAt, run_underlying ht, Instr.slice, hx.str_inv, hsz, hb]
      rw [hrun]
      have e : (⟨⟨b⟩⟩ : ByteArray).extract l.toNat u.toNat = ⟨⟨(b.drop l.toNat).take (u - l).toNat⟩⟩ := by
        apply ByteArray.ext
        apply Array.ext'
        rw [Lib.extract_data]
        have : u.toNat - l.toNat = (u - l).toNat := by omega
        rw [this]
      rw [e]
      exact Done.val hr hk (.str _)
    · exact hk.elim
  · exact hk.elim

end
end Go.Abs
