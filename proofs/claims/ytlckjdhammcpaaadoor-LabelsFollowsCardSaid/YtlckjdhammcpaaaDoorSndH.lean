/-
  The abstract meaning of slices that are written out, made and cut is the model's. No condition.
-/
import Derived.Test.YtlckjdhammcpaaaDoorSndG
set_option linter.unusedVariables false
set_option linter.unusedSimpArgs false
namespace Go.Abs
section
variable {P : Program} {k : Res} {w : World} {O : Nat → Prop} {ρ : Nat → Loc} {s : St} {η : Operand → Value} {o : Oper}

def qsFrom (sz : Nat) : Nat → List Opd → List (Nat × Nat × Opd)
  | _, [] => []
  | k, y :: r => (k * sz, sz, y) :: qsFrom sz (k + 1) r

theorem compPs_range (sz : Nat) : ∀ (ps : List (Nat × Operand)) (k : Nat) (ys : List Opd), ps.map (·.1) = List.range' k ps.length → compXs (ps.map (·.2)) = some ys →
    compPs (fun i => some (i * sz, sz)) ps = some (qsFrom sz k ys)
  | [], k, ys, _, h => by simp [compXs] at h; subst h; rfl
  | p :: r, k, ys, h1, h => by
    simp only [List.map_cons, compXs] at h
    split at h
    · rename_i y ys' hy hys
      injection h with h
      subst h
      simp only [List.map_cons, List.length_cons, List.range'_succ, List.cons.injEq] at h1
      simp only [compPs, hy, compPs_range sz r (k + 1) ys' h1.2 hys, h1.1, qsFrom]
    · cases h

theorem rowsOf_sz {sz : Nat} : ∀ {ys : List Opd} {rs : List (List V)}, rowsOf sz s ys = some rs → rowsz rs sz ∧ rs.length = ys.length
  | [], rs, h => by simp [rowsOf] at h; subst h; exact ⟨by intro r hr; simp at hr, rfl⟩
  | y :: r, rs, h => by
    simp only [rowsOf] at h
    split at h
    · rename_i cs rs' hc hr
      cases hb : Nat.beq cs.length sz with
      | false => rw [hb] at h; cases h
      | true =>
        rw [hb, cond_true] at h
        injection h with h
        subst h
        obtain ⟨h1, h2⟩ := rowsOf_sz hr
        refine ⟨fun x hx => ?_, by simp [h2]⟩
        rcases List.mem_cons.1 hx with rfl | hx
        · exact Nat.eq_of_beq_eq_true hb
        · exact h1 x hx
    · cases h

theorem fill_rows {sz : Nat} : ∀ (ys : List Opd) (k : Nat) (z : List V) (rs : List (List V)), rowsOf sz s ys = some rs → z.length = (k + ys.length) * sz → fillV s z (qsFrom sz k ys) = some (z.take (k * sz) ++ rs.flatten)
  | [], k, z, rs, h, hz => by
    simp [rowsOf] at h; subst h
    simp only [qsFrom, fillV, List.flatten_nil, List.append_nil]
    rw [List.take_of_length_le (by rw [hz]; simp)]
  | y :: r, k, z, rs, h, hz => by
    simp only [rowsOf] at h
    split at h
    · rename_i cs rs' hc hr
      cases hb : Nat.beq cs.length sz with
      | false => rw [hb] at h; cases h
      | true =>
        rw [hb, cond_true] at h
        injection h with h
        subst h
        have hl := Nat.eq_of_beq_eq_true hb
        have e1 : k * sz + sz = (k + 1) * sz := by rw [Nat.add_mul, Nat.one_mul]
        have e2 : (k + 1) * sz ≤ z.length := by rw [hz]; exact Nat.mul_le_mul_right _ (by simp only [List.length_cons]; omega)
        have hle : k * sz + cs.length ≤ z.length := by rw [hl]; omega
        simp only [qsFrom, fillV, hc, hb, Bool.true_and, Nat.ble_eq_true_of_le hle, cond_true]
        rw [fill_rows r (k + 1) _ rs' hr (by rw [putCells_length hle, hz]; congr 1; simp; omega)]
        congr 1
        rw [List.flatten_cons, ← List.append_assoc]
        congr 1
        unfold putCells
        rw [List.take_append_of_le_length (by simp; omega), List.take_of_length_le (by simp; omega)]
    · cases h

theorem snd_row_cells {t e : TypeId} {len : Nat} {parts : Array (Nat × Operand)} {ys : List Opd} {ti : TypeInfo} {z : Value} {rs : List (List V)} (ho : o.op = .buildSlice t len parts) (ht : P.underlying t = some (.slice e)) (hi : P.info? e = some ti) (hz : ti.zero = some z)
    (hzs : z.cells.size = ti.size) (hz1 : ∀ (i : Nat) v, z.cells[i]? = some v → v.oneCell' = true) (h24 : len * ti.size ≤ 16777216) (hp : parts.toList.map (·.1) = List.range' 0 parts.toList.length) (hl : parts.toList.length = len) (hy : compXs (parts.toList.map (·.2)) = some ys)
    (he : EvR (envOf w O ρ s.n s.h) s η) (hrs : rowsOf ti.size s ys = some rs) : ∃ zs : Array Value, RL (envOf w O ρ s.n s.h) rs.flatten zs ∧ (∀ (i : Nat) v, zs[i]? = some v → v.oneCell' = true) ∧ rs.length = len ∧ rowsz rs ti.size ∧
      (execOp η o).run P w = .ok (.value (.slice (some ⟨w.heap.size, 0, none⟩) len len)) (w.alloc (.cells zs e)) := by
  have hyl : ys.length = len := by
    have : ∀ (l : List Operand) (ys : List Opd), compXs l = some ys → ys.length = l.length := by
      intro l
      induction l with
      | nil => intro ys h; simp [compXs] at h; subst h; rfl
      | cons x r ih =>
        intro ys h
        simp only [compXs] at h
        split at h
        · rename_i y ys' _ h2; injection h with h; subst h; simp [ih _ h2]
        · cases h
    rw [this _ _ hy]; simpa using hl
  have hqs := compPs_range ti.size parts.toList 0 ys hp hy
  generalize hZ : (if len * ti.size = 0 then (#[] : Array Value) else z.cells) = Z
  generalize hz0 : ((Array.range (len * ti.size)).map fun i => Z[i % Z.size]!) = zs0
  have hzs0 : zs0.size = len * ti.size := by rw [← hz0]; simp
  have hz01 : ∀ (i : Nat) v, zs0[i]? = some v → v.oneCell' = true := by
    intro i v hv
    by_cases h0 : len * ti.size = 0
    · have : i < zs0.size := (Array.getElem?_eq_some_iff.1 hv).1
      omega
    · rw [← hz0] at hv
      rw [if_neg h0] at hZ
      subst hZ
      simp only [Array.getElem?_map, Option.map_eq_some_iff] at hv
      obtain ⟨j, _, rfl⟩ := hv
      have hpos : 0 < z.cells.size := by rw [hzs]; exact Nat.pos_of_ne_zero fun h => h0 (by rw [h]; rfl)
      have hlt := Nat.mod_lt j hpos
      rw [getElem!_pos z.cells _ hlt]
      exact hz1 (j % z.cells.size) z.cells[j % z.cells.size] (by simp [hlt])
  have hfv := fill_rows (s := s) ys 0 (List.replicate (len * ti.size) V.undef) rs hrs (by simp [hyl])
  simp only [Nat.zero_mul, List.take_zero, List.nil_append] at hfv
  obtain ⟨zs, a1, a2, a3⟩ := fill_R parts.toList _ _ _ zs0 hqs he ⟨by simp [hzs0], fun i c v hc _ => by
    rw [List.getElem?_replicate] at hc
    split at hc
    · injection hc with hc; subst hc; exact .undef _
    · cases hc⟩ hz01 hfv
  obtain ⟨hsz, hrl⟩ := rowsOf_sz hrs
  refine ⟨zs, a2, a3, by rw [hrl, hyl], hsz, ?_⟩
  have e1 : (parts.map fun (x : Nat × Operand) => match x with | (i, x) => (i, η x)).toList = parts.toList.map fun p => (p.1, η p.2) := by rw [Array.toList_map]
  have h24' : ¬ (len * ti.size > 2 ^ 24) := by omega
  by_cases h0 : len * ti.size = 0
  · rw [if_pos h0] at hZ
    subst hZ
    have hz00 : zs0 = #[] := by rw [← hz0, h0]; simp
    rw [hz00] at a1
    simp only [execOp, ho, Instr.buildSlice, Sem.run_bind, run_underlying ht, Result.andThen_ok, sizeOf, typeInfo, run_program, hi, Sem.run_pure, e1]
    have r0 : Array.range 0 = #[] := rfl
    simp only [h0, gt_iff_lt, Nat.not_lt_zero, if_false, if_true, r0, List.map_toArray, List.map_nil, a1]
    simp [newRow]
  · rw [if_neg h0] at hZ
    subst hZ
    simp only [execOp, ho, Instr.buildSlice, Sem.run_bind, run_underlying ht, Result.andThen_ok, sizeOf, typeInfo, run_program, hi, Sem.run_pure, e1]
    simp only [if_neg h24', if_neg h0, Sem.run_pure, Sem.run_bind, zeroValue, typeInfo, run_program, hi, hz, Result.andThen_ok, hz0, a1]
    simp [newRow]

theorem snd_mkrow {t e : TypeId} {len nm : Nat} {parts : Array (Nat × Operand)} {ys : List Opd} {ti : TypeInfo} {z : Value} (ho : o.op = .buildSlice t len parts) (ht : P.underlying t = some (.slice e)) (hi : P.info? e = some ti) (hz : ti.zero = some z)
    (hzs : z.cells.size = ti.size) (hz1 : ∀ (i : Nat) v, z.cells[i]? = some v → v.oneCell' = true) (h24 : len * ti.size ≤ 16777216) (hp : parts.toList.map (·.1) = List.range' 0 parts.toList.length) (hl : parts.toList.length = len) (hy : compXs (parts.toList.map (·.2)) = some ys)
    (hr : HeapR w O ρ s.n s.h) (he : EvR (envOf w O ρ s.n s.h) s η) (hk : stepO P (.mkrow nm ti.size ys) s k) : Done P k w O ρ s.h s.n ((execOp η o).run P w) := by
  simp only [stepO] at hk
  cases hrs : rowsOf ti.size s ys with
  | none => rw [hrs] at hk; exact hk.elim
  | some rs =>
    rw [hrs] at hk
    obtain ⟨zs, a1, a2, a3, a4, a5⟩ := snd_row_cells ho ht hi hz hzs hz1 h24 hp hl hy he hrs
    rw [a5]
    obtain ⟨ρ', b1, b2, b3⟩ := hr.allocFlat nm ti.size len rs zs e (by rw [← a1.1, flat_length a4, a3]) (by omega) a4 (fun q c hq => by
      have hlt : q < zs.size := by have := (List.getElem?_eq_some_iff.1 hq).1; rw [← a1.1]; exact this
      exact ⟨zs[q], by simp [hlt], a2 q _ (by simp [hlt]), a1.2 q c _ hq (by simp [hlt])⟩)
    refine ⟨_, _, _, ρ', hk, b2, ?_, b3⟩
    rw [a3]
    exact sl_whole (Nat.lt_succ_self _) b1 (Nat.le_refl _)

theorem snd_mkisl {t e : TypeId} {len : Nat} {parts : Array (Nat × Operand)} {ys : List Opd} {ti : TypeInfo} {z : Value} (ho : o.op = .buildSlice t len parts) (ht : P.underlying t = some (.slice e)) (hi : P.info? e = some ti) (hz : ti.zero = some z)
    (hzs : z.cells.size = ti.size) (hz1 : ∀ (i : Nat) v, z.cells[i]? = some v → v.oneCell' = true) (h24 : len * ti.size ≤ 16777216) (hp : parts.toList.map (·.1) = List.range' 0 parts.toList.length) (hl : parts.toList.length = len) (hy : compXs (parts.toList.map (·.2)) = some ys)
    (hr : HeapR w O ρ s.n s.h) (he : EvR (envOf w O ρ s.n s.h) s η) (hk : stepO P (.mkisl ti.size ys) s k) : Done P k w O ρ s.h s.n ((execOp η o).run P w) := by
  simp only [stepO] at hk
  cases hrs : rowsOf ti.size s ys with
  | none => rw [hrs] at hk; exact hk.elim
  | some rs =>
    rw [hrs] at hk
    obtain ⟨zs, a1, a2, a3, a4, a5⟩ := snd_row_cells ho ht hi hz hzs hz1 h24 hp hl hy he hrs
    rw [a5]
    obtain ⟨b1, b2⟩ := hr.world (w' := w.alloc (.cells zs e)) (Wd.alloc _ _) fun x hx => heap_alloc_lt _ _ _ hx
    refine ⟨_, _, _, ρ, hk, b1, ?_, b2⟩
    have hlt : ∀ {i j : Nat} {row : List V} {c : V}, rs[i]? = some row → row[j]? = some c → i * ti.size + j < zs.size ∧ rs.flatten[i * ti.size + j]? = some c := by
      intro i j row c hi hj
      have h1 := (List.getElem?_eq_some_iff.1 hj).1
      rw [rowsz_get a4 i row hi] at h1
      have h2 : rs.flatten[i * ti.size + j]? = some c := by rw [flat_get a4 i j h1, hi]; exact hj
      exact ⟨by have := (List.getElem?_eq_some_iff.1 h2).1; rw [← a1.1]; exact this, h2⟩
    have hmain := R.isl (E := envOf (w.alloc (.cells zs e)) O ρ s.n s.h) rs ⟨w.heap.size, 0, none⟩ len ti.size (fun i j => zs.getD (i * ti.size + j) Go.undef) rfl (by omega) (fun i row hi => rowsz_get a4 i row hi)
      (fun i row j c hi hj => by
        obtain ⟨h1, h2⟩ := hlt hi hj
        have hgd : zs.getD (i * ti.size + j) Go.undef = zs[i * ti.size + j] := by simp [Array.getD, h1]
        refine ⟨by simp [h1], ?_, ?_, ?_⟩
        · rw [hgd]
          exact a2 (i * ti.size + j) _ (by simp [h1])
        · intro hown; exact absurd (hr.real hown) (Nat.lt_irrefl _)
        · intro hO; exact absurd (hr.out _ hO) (Nat.lt_irrefl _))
      (fun i row j c hi hj => by
        obtain ⟨h1, h2⟩ := hlt hi hj
        have hgd : zs.getD (i * ti.size + j) Go.undef = zs[i * ti.size + j] := by simp [Array.getD, h1]
        rw [hgd]
        exact (a1.2 (i * ti.size + j) c _ h2 (by simp [h1])).mono b2)
    rw [a3] at hmain
    exact hmain

theorem snd_mksl {x x2 : Operand} {x' : Opd} {t e : TypeId} {nm : Nat} {ti : TypeInfo} {zv : Value} {z : List V} (ho : o.op = .makeSlice t x x2) (hx2 : η x2 = η x) (ht : P.underlying t = some (.slice e)) (hi : P.info? e = some ti) (hz : ti.zero = some zv) (hb : ti.bytes ≤ 1024)
    (hzs : ∀ E : Env, RL E z zv.cells) (hz1 : ∀ (i : Nat) v, zv.cells[i]? = some v → v.oneCell' = true) (hzl : z.length = ti.size) (hx : compX x = some x')
    (hr : HeapR w O ρ s.n s.h) (he : EvR (envOf w O ρ s.n s.h) s η) (hk : stepO P (.mksl nm z x') s k) : Done P k w O ρ s.h s.n ((execOp η o).run P w) := by
  have hx := he.ev hx
  simp only [stepO] at hk
  generalize s.ev x' = vx at *
  unfold mkslK at hk
  split at hk
  · rename_i m
    obtain ⟨h0, h1, hk⟩ := hk
    have hv := hx.int_inv
    obtain ⟨n, rfl⟩ := Int.eq_ofNat_of_zero_le h0
    have hzsz : zv.cells.size = ti.size := by rw [← (hzs (envOf w O ρ s.n s.h)).1, hzl]
    generalize hcs : madeCells zv.cells (n * ti.size) = cs
    have hrun : (execOp η o).run P w = .ok (.value (.slice (some ⟨w.heap.size, 0, none⟩) n n)) (w.alloc (.cells cs e)) := by
      have hbn : (ti.bytes : Int) * n ≤ 281474976710656 := by
        have : ti.bytes * n ≤ 1024 * 137438953472 := Nat.mul_le_mul hb (by omega)
        have h3 : ((ti.bytes * n : Nat) : Int) ≤ 140737488355328 := by omega
        rw [Int.natCast_mul] at h3
        omega
      have h := run_make (P := P) w t e ti zv ht hi hz .i64 .i64 n n h0 (Int.le_refl _) hbn (by omega)
      simp only [Int.toNat_natCast, hcs] at h
      simp [execOp, ho, hx2, hv, h]
    rw [hrun]
    have hcsz : cs.size = n * ti.size := by rw [← hcs, size_madeCells]
    have hrep : rowsz (List.replicate n z) ti.size := fun r hr => by rw [(List.mem_replicate.1 hr).2, hzl]
    obtain ⟨ρ', b1, b2, b3⟩ := hr.alloc nm ti.size n (List.replicate n z) cs e hcsz (by simp) (fun i row hi => by
      have hrow : row = z := by
        rw [List.getElem?_replicate] at hi
        split at hi
        · injection hi with hi; exact hi.symm
        · cases hi
      have hin : i < n := by have := (List.getElem?_eq_some_iff.1 hi).1; simpa using this
      subst hrow
      refine ⟨hzl, fun j c hj => ?_⟩
      have hjl : j < ti.size := by have := (List.getElem?_eq_some_iff.1 hj).1; omega
      have hq : i * ti.size + j < n * ti.size := by
        have : (i + 1) * ti.size ≤ n * ti.size := Nat.mul_le_mul_right _ hin
        rw [Nat.add_mul, Nat.one_mul] at this
        omega
      have hjz : j < zv.cells.size := by omega
      refine ⟨zv.cells[j], ?_, hz1 j _ (by simp [hjz]), (hzs _).2 j c _ hj (by simp [hjz])⟩
      have hmod : (i * ti.size + j) % zv.cells.size = j := by rw [hzsz, Nat.mul_comm, Nat.mul_add_mod, Nat.mod_eq_of_lt hjl]
      rw [← hcs, madeCells, Array.getElem?_map]
      simp [hq, hmod, hjz])
    have hk' : k (.sl nm s.n 0 n) (Heap.put s.h nm s.n (.rows ti.size (List.replicate n z))) (s.n + 1) := by simpa [hzl] using hk
    exact ⟨_, _, _, ρ', hk', b2, sl_whole (Nat.lt_succ_self _) b1 (Nat.le_refl _), b3⟩
  · exact hk.elim

end
end Go.Abs
