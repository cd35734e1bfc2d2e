/-
  The abstract meaning of slices that are written out, made, cut, and appended to is the model's. No condition.
-/
import Derived.Test.YtlckjdhammcpaaaDoorSndE
import Derived.Lib.Strings
set_option linter.unusedVariables false
set_option linter.unusedSimpArgs false
namespace Go.Abs
section
variable {P : Program} {k : Res} {w : World} {O : Nat → Prop} {ρ : Nat → Loc} {s : St} {η : Operand → Value} {o : Oper}

/-! Rows and their cells in a line. -/

theorem rowsz_tail {r : List V} {rs : List (List V)} {sz : Nat} (h : rowsz (r :: rs) sz) : r.length = sz ∧ rowsz rs sz := ⟨h r (by simp), fun x hx => h x (by simp [hx])⟩
theorem flat_length {rs : List (List V)} {sz : Nat} (h : rowsz rs sz) : rs.flatten.length = rs.length * sz := by
  induction rs with
  | nil => simp
  | cons r rs ih => simp [ih (rowsz_tail h).2, (rowsz_tail h).1, Nat.add_mul]; omega
theorem flat_get {rs : List (List V)} {sz : Nat} (h : rowsz rs sz) : ∀ (i j : Nat), j < sz → rs.flatten[i * sz + j]? = (rs[i]?).bind (·[j]?) := by
  induction rs with
  | nil => intro i j _; simp
  | cons r rs ih =>
    intro i j hj
    obtain ⟨h1, h2⟩ := rowsz_tail h
    rw [List.flatten_cons, List.getElem?_append]
    cases i with
    | zero => rw [if_pos (by omega)]; simp
    | succ i =>
      have e : (i + 1) * sz + j - r.length = i * sz + j := by rw [Nat.add_mul, h1]; omega
      rw [if_neg (by rw [Nat.add_mul, h1]; omega), e, ih h2 i j hj]
      simp
theorem rowsz_of {rs : List (List V)} {sz : Nat} (h : ∀ (i : Nat) row, rs[i]? = some row → row.length = sz) : rowsz rs sz := fun row hr => by
  obtain ⟨i, hi⟩ := List.getElem?_of_mem hr
  exact h i row hi
theorem rowsz_get {rs : List (List V)} {sz : Nat} (h : rowsz rs sz) (i : Nat) (row : List V) (hi : rs[i]? = some row) : row.length = sz := h row (List.mem_of_getElem? hi)

theorem rows_flat {E : Env} {b off sz : Nat} {rs : List (List V)} (h : rowsz rs sz) (hr : ∀ (i : Nat) row, rs[i]? = some row → RowR E b (off + i * sz) row) : RowR E b off rs.flatten := by
  intro q c hq
  have hlt := (List.getElem?_eq_some_iff.1 hq).1
  rw [flat_length h] at hlt
  have hsz : 0 < sz := by rcases Nat.eq_zero_or_pos sz with h0 | h0; · subst h0; omega
                          · exact h0
  have hj := Nat.mod_lt q hsz
  have e := Nat.div_add_mod q sz
  rw [Nat.mul_comm] at e
  rw [← e, flat_get h _ _ hj, Option.bind_eq_some_iff] at hq
  obtain ⟨row, hrow, hc⟩ := hq
  obtain ⟨x, h1, h2⟩ := hr _ row hrow _ c hc
  exact ⟨x, by rw [← h1]; congr 2; omega, h2⟩
theorem flat_rows {E : Env} {b off sz : Nat} {rs : List (List V)} (h : rowsz rs sz) (hr : RowR E b off rs.flatten) (i : Nat) (row : List V) (hi : rs[i]? = some row) : RowR E b (off + i * sz) row := by
  intro j c hj
  have hlt := (List.getElem?_eq_some_iff.1 hj).1
  rw [rowsz_get h i row hi] at hlt
  obtain ⟨x, h1, h2⟩ := hr (i * sz + j) c (by rw [flat_get h i j hlt, hi]; exact hj)
  exact ⟨x, by rw [← h1]; congr 2; omega, h2⟩

theorem collect {E : Env} {b off : Nat} {cs : List V} (h : RowR E b off cs) : ∃ vs : List Value, vs.length = cs.length ∧ (∀ (q : Nat) v, vs[q]? = some v → E.w.cell? ⟨b, off + q, none⟩ = some v) ∧
    RL E cs vs.toArray ∧ ∀ (q : Nat) v, vs[q]? = some v → v.oneCell' = true := by
  have hex : ∀ i, ∃ x, i < cs.length → E.w.cell? ⟨b, off + i, none⟩ = some x ∧ x.oneCell' = true ∧ ∀ c, cs[i]? = some c → R E c x := by
    intro i
    by_cases hi : i < cs.length
    · obtain ⟨x, h1, h2, h3⟩ := h i cs[i] (by simp [hi])
      exact ⟨x, fun _ => ⟨h1, h2, fun c hc => by simp [hi] at hc; subst hc; exact h3⟩⟩
    · exact ⟨Go.undef, fun h => (hi h).elim⟩
  let f := fun i => (hex i).choose
  have hf := fun i => (hex i).choose_spec
  have get : ∀ (q : Nat) v, ((List.range cs.length).map f)[q]? = some v → q < cs.length ∧ v = f q := by
    intro q v hv
    rw [List.getElem?_map, Option.map_eq_some_iff] at hv
    obtain ⟨q', hq', rfl⟩ := hv
    have hlt : q < cs.length := by have := (List.getElem?_eq_some_iff.1 hq').1; simpa using this
    have : q' = q := by have := (List.getElem?_eq_some_iff.1 hq').2; simpa using this.symm
    exact ⟨hlt, by rw [this]⟩
  refine ⟨(List.range cs.length).map f, by simp, fun q v hv => ?_, ⟨by simp, fun q c v hc hv => ?_⟩, fun q v hv => ?_⟩
  · obtain ⟨h1, rfl⟩ := get q v hv; exact (hf q h1).1
  · obtain ⟨h1, rfl⟩ := get q v (by simpa using hv); exact (hf q h1).2.2 c hc
  · obtain ⟨h1, rfl⟩ := get q v hv; exact (hf q h1).2.1

theorem add_lit (b o m : Nat) : (⟨b, o, none⟩ : Addr).add m = ⟨b, o + m, none⟩ := by
  unfold Addr.add
  split
  · rename_i h; subst h; rfl
  · rfl

/-- The cells of a slice's rows, as they are loaded. -/
theorem view_cells {h : Heap} {n : Nat} (hr : HeapR w O ρ n h) {x : V} {v : Value} {rs : List (List V)} {sz : Nat} (hx : R (envOf w O ρ n h) x v) (hv : viewV h x = some rs) (hsz : rowsz rs sz) :
    ∃ (p : Option Addr) (cap : Nat) (vs : List Value), v = .slice p rs.length cap ∧ vs.length = rs.length * sz ∧ RL (envOf w O ρ n h) rs.flatten vs.toArray ∧ (∀ (q : Nat) u, vs[q]? = some u → u.oneCell' = true) ∧
      ∀ (P : Program) (w' : World), (∀ a, w'.cell? a = w.cell? a) → (Builtin.firstCells sz rs.length v).run P w' = .ok vs.toArray w' := by
  have empty : ∀ (p : Option Addr) (cap : Nat), v = .slice p 0 cap → rs = [] → ∃ (p : Option Addr) (cap : Nat) (vs : List Value), v = .slice p rs.length cap ∧ vs.length = rs.length * sz ∧ RL (envOf w O ρ n h) rs.flatten vs.toArray ∧ (∀ (q : Nat) u, vs[q]? = some u → u.oneCell' = true) ∧
      ∀ (P : Program) (w' : World), (∀ a, w'.cell? a = w.cell? a) → (Builtin.firstCells sz rs.length v).run P w' = .ok vs.toArray w' := by
    intro p cap hvv hrs
    subst hrs; subst hvv
    refine ⟨p, cap, [], rfl, by simp, ⟨rfl, by simp⟩, by simp, fun P w' _ => ?_⟩
    cases p with
    | none => simp [Builtin.firstCells]
    | some a =>
      have := run_loadCells_list (P := P) w' a [] (by simp)
      simpa [Builtin.firstCells] using this
  have full : ∀ (b off cap : Nat), v = .slice (some ⟨b, off, none⟩) rs.length cap → RowR (envOf w O ρ n h) b off rs.flatten → ∃ (p : Option Addr) (cap : Nat) (vs : List Value), v = .slice p rs.length cap ∧ vs.length = rs.length * sz ∧ RL (envOf w O ρ n h) rs.flatten vs.toArray ∧ (∀ (q : Nat) u, vs[q]? = some u → u.oneCell' = true) ∧
      ∀ (P : Program) (w' : World), (∀ a, w'.cell? a = w.cell? a) → (Builtin.firstCells sz rs.length v).run P w' = .ok vs.toArray w' := by
    intro b off cap hv hR
    obtain ⟨vs, h1, h2, h3, h4⟩ := collect hR
    rw [flat_length hsz] at h1
    refine ⟨_, cap, vs, hv, h1, h3, h4, fun P w' hw => ?_⟩
    subst hv
    have := run_loadCells_list (P := P) w' ⟨b, off, none⟩ vs (fun j u hj => by rw [add_lit, hw]; exact h2 j u hj)
    simpa [Builtin.firstCells, h1] using this
  unfold viewV at hv
  split at hv
  · injection hv with hv
    exact empty none 0 hx.nils_inv hv.symm
  · rename_i es
    injection hv with hv
    subst hv
    cases hx with
    | isl _ p cap sz' f hp hcap hrow hcell hR =>
      by_cases h0 : es = []
      · subst h0; exact empty (some p) cap rfl rfl
      · have hs : sz' = sz := by
          obtain ⟨r, es', rfl⟩ := List.exists_cons_of_ne_nil h0
          rw [← hrow 0 r rfl, ← hsz r (by simp)]
        subst hs
        obtain ⟨pb, po, ps⟩ := p
        simp only at hp
        subst hp
        exact full pb po cap rfl (rows_flat hsz fun i row hi j c hj => ⟨f i j, (hcell i row j c hi hj).1, (hcell i row j c hi hj).2.1, hR i row j c hi hj⟩)
    | isl0 a cap => exact empty a cap rfl rfl
  · rename_i b st i m
    split at hv
    · rename_i sz' rs' hg
      cases hb : Nat.ble (i + m) rs'.length with
      | false => rw [hb] at hv; cases hv
      | true =>
        rw [hb, cond_true] at hv
        injection hv with hv
        have hle := Nat.le_of_ble_eq_true hb
        obtain ⟨hsz', hlen, hcell, hrows⟩ := hr.blk _ (Heap.mem_of_get hg)
        have hl : rs.length = m := by rw [← hv]; simp; omega
        cases hx with
        | sl _ _ _ _ cap hst hn hc =>
          by_cases h0 : m = 0
          · subst h0; exact empty _ cap rfl (List.eq_nil_of_length_eq_zero hl)
          · have hsz2 : sz' = sz := by
              have h1 : i < rs'.length := by omega
              have h2 : rs[0]? = some rs'[i] := by rw [← hv, List.getElem?_take, if_pos (by omega), List.getElem?_drop]; simp [h1]
              rw [← (hrows i rs'[i] (by simp [h1])).1, rowsz_get hsz 0 _ h2]
            subst hsz2
            have hsz3 : (ρ st).sz = sz' := hsz'
            refine full (ρ st).blk ((ρ st).off + i * (ρ st).sz) cap (by rw [hl]) (rows_flat hsz fun i' row hi => ?_)
            rw [← hv, List.getElem?_take] at hi
            split at hi
            · rw [List.getElem?_drop] at hi
              have := (hrows (i + i') row hi).2
              rw [Nat.add_mul, ← Nat.add_assoc] at this
              rw [hsz3]
              exact this
            · cases hi
        | sl0 _ _ _ a => exact empty a 0 rfl (List.eq_nil_of_length_eq_zero hl)
    · cases hb : Nat.beq m 0 with
      | false => rw [hb] at hv; cases hv
      | true =>
        rw [hb, cond_true] at hv
        injection hv with hv
        have := Nat.eq_of_beq_eq_true hb
        subst this
        obtain ⟨p, c, hp⟩ := hx.sl_inv
        exact empty p c hp hv.symm
  · cases hv

theorem strRows_flat (b : List UInt8) : (strRows b).flatten = b.map fun c => V.int .u8 c.toNat := by
  unfold strRows
  induction b with
  | nil => rfl
  | cons c r ih => simpa using ih

/-- The source of an append or a copy. -/
theorem src_cells {h : Heap} {n : Nat} (hr : HeapR w O ρ n h) {x : V} {v : Value} {rs : List (List V)} {sz : Nat} (hx : R (envOf w O ρ n h) x v) (hv : srcV h x = some rs) (hsz : rowsz rs sz) :
    ∃ (vs : List Value), vs.length = rs.length * sz ∧ RL (envOf w O ρ n h) rs.flatten vs.toArray ∧ (∀ (q : Nat) u, vs[q]? = some u → u.oneCell' = true) ∧
      (∀ (P : Program) (w' : World), (Builtin.lenOf v).run P w' = .ok rs.length w') ∧
      ∀ (P : Program) (w' : World), (∀ a, w'.cell? a = w.cell? a) → (Builtin.firstCells sz rs.length v).run P w' = .ok vs.toArray w' := by
  unfold srcV at hv
  split at hv
  · rename_i b
    injection hv with hv
    rw [hx.str_inv]
    have hl : rs.length = b.length := by rw [← hv]; simp [strRows]
    have hflat : rs.flatten = b.map fun c => V.int .u8 c.toNat := by
      rw [← hv]; exact strRows_flat b
    have hsz1 : rs ≠ [] → sz = 1 := by
      intro h0
      obtain ⟨r, rs', rfl⟩ := List.exists_cons_of_ne_nil h0
      rw [← hsz r (by simp)]
      cases b with
      | nil => simp [strRows] at hv
      | cons c r' => simp [strRows] at hv; rw [← hv.1]; rfl
    refine ⟨b.map fun c => Value.int .u8 c.toNat, ?_, ?_, ?_, fun P w' => by simp [Builtin.lenOf, hl]; rfl, fun P w' _ => ?_⟩
    · rw [List.length_map, ← hl]
      by_cases h0 : rs = []
      · subst h0; simp
      · rw [hsz1 h0, Nat.mul_one]
    · rw [hflat]
      refine ⟨by simp, fun q c u hc hu => ?_⟩
      simp only [List.getElem?_map, Option.map_eq_some_iff, List.getElem?_toArray] at hc hu
      obtain ⟨a, ha, rfl⟩ := hc
      obtain ⟨a', ha', rfl⟩ := hu
      rw [ha] at ha'
      injection ha' with ha'
      subst ha'
      exact .int _ _
    · intro q u hu
      rw [List.getElem?_map, Option.map_eq_some_iff] at hu
      obtain ⟨a, _, rfl⟩ := hu
      rfl
    · simp only [Builtin.firstCells, Sem.run_pure, hl]
      congr 1
      apply Array.ext'
      simp
  · obtain ⟨p, cap, vs, h1, h2, h3, h4, h5⟩ := view_cells hr hx hv hsz
    exact ⟨vs, h2, h3, h4, fun P w' => by rw [h1]; simp [Builtin.lenOf], h5⟩

end
end Go.Abs
