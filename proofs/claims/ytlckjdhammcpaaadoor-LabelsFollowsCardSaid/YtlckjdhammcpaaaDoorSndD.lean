/-
  The abstract meaning of the operations that make and read memory is the model's. No condition.
-/
import Derived.Test.YtlckjdhammcpaaaDoorSndC
set_option linter.unusedVariables false
set_option linter.unusedSimpArgs false
namespace Go.Abs
section
variable {P : Program} {k : Res} {w : World} {O : Nat → Prop} {ρ : Nat → Loc} {s : St} {η : Operand → Value} {o : Oper}

theorem HeapR.real {h : Heap} {n : Nat} (hr : HeapR w O ρ n h) {x : Nat} (hx : Own ρ h x) : x < w.heap.size := by
  obtain ⟨e, he, hc, rfl⟩ := hx
  have := hr.blk e he
  cases hb : e.2.2 with
  | rows sz rs => rw [hb] at this; exact (this.2.2.1 hc).2
  | map es => rw [hb] at this; obtain ⟨_, mes, clock, h2, _⟩ := this; exact (Array.getElem?_eq_some_iff.1 h2).1

/-- A world with new blocks, or new draws, and nothing else. -/
theorem HeapR.world {h : Heap} {n : Nat} {w' : World} (hr : HeapR w O ρ n h) (hs : Wd w w') (hb : ∀ x, x < w.heap.size → w'.heap[x]? = w.heap[x]?) :
    HeapR w' O ρ n h ∧ Ext (envOf w O ρ n h) (envOf w' O ρ n h) := by
  have hx : Ext (envOf w O ρ n h) (envOf w' O ρ n h) := ⟨rfl, Nat.le_refl _, fun _ _ => rfl, hs, fun x hx ho => ⟨hb x hx, ho⟩⟩
  exact ⟨⟨hr.lt, hr.inj, fun x hx => Nat.lt_of_lt_of_le (hr.out x hx) hs.size, hr.notO, fun e he => (hr.blk e he).mono hx (hr.lt e he) fun hc => hb _ (hr.real ⟨e, he, hc, rfl⟩), hr.gl.mono hx.imm⟩, hx⟩

theorem heap_alloc_lt (w : World) (ob : Obj) (x : Nat) (h : x < w.heap.size) : (w.alloc ob).heap[x]? = w.heap[x]? := heap_alloc_old w ob h

theorem R.cells {E : Env} {v : V} {x : Value} {cs : List V} (h : R E v x) (hc : cellsV v = some cs) : RL E cs x.cells ∧ ∀ (i : Nat) u, x.cells[i]? = some u → u.oneCell' = true := by
  unfold cellsV at hc
  split at hc <;> first | (cases hc; done) | skip
  · injection hc with hc
    subst hc
    obtain ⟨vs, rfl, hl, h1, hR⟩ := h.agg_inv
    exact ⟨⟨hl, hR⟩, h1⟩
  · rename_i h1 h2 h3 h4
    injection hc with hc
    subst hc
    have one : x.cells = #[x] ∧ x.oneCell' = true := by
      cases h <;> first
        | exact ⟨rfl, rfl⟩
        | exact (h1 _ rfl).elim
        | exact (h2 rfl).elim
        | exact (h3 _ rfl).elim
        | exact (h4 _ rfl).elim
    rw [one.1]
    refine ⟨⟨rfl, fun i c u hi hu => ?_⟩, fun i u hu => ?_⟩
    · cases i with
      | zero => simp at hi hu; subst hi; subst hu; exact h
      | succ i => simp at hi
    · cases i with
      | zero => simp at hu; subst hu; exact one.2
      | succ i => simp at hu

/-- A new row of cells. -/
theorem HeapR.alloc {h : Heap} {n : Nat} (hr : HeapR w O ρ n h) (nm sz cap : Nat) (rs : List (List V)) (cs : Array Value) (el : TypeId) (hcs : cs.size = cap * sz) (hl : rs.length ≤ cap)
    (hrow : ∀ (i : Nat) row, rs[i]? = some row → row.length = sz ∧ ∀ (j : Nat) c, row[j]? = some c → ∃ x, cs[i * sz + j]? = some x ∧ x.oneCell' = true ∧ R (envOf w O ρ n h) c x) :
    ∃ ρ' : Nat → Loc, ρ' n = ⟨w.heap.size, 0, sz, cap⟩ ∧ HeapR (w.alloc (.cells cs el)) O ρ' (n + 1) (Heap.put h nm n (.rows sz rs)) ∧
      Ext (envOf w O ρ n h) (envOf (w.alloc (.cells cs el)) O ρ' (n + 1) (Heap.put h nm n (.rows sz rs))) := by
  let ρ' : Nat → Loc := fun st => if st = n then ⟨w.heap.size, 0, sz, cap⟩ else ρ st
  have hn : ρ' n = ⟨w.heap.size, 0, sz, cap⟩ := by simp [ρ']
  refine ⟨ρ', hn, ?_⟩
  refine HeapR.step hr (Nat.le_succ _) (fun st hst => by simp [ρ', Nat.ne_of_lt hst]) (Nat.lt_succ_self _) (Wd.alloc _ _)
    (fun y hy _ => heap_alloc_lt _ _ _ hy) (by rw [hn]; exact .inr (.inl (Nat.le_refl _))) ?_
  intro hx
  refine ⟨by simp [hn], by simp [hn, hl], ?_, ?_⟩
  · intro _
    simp only [hn]
    refine ⟨fun j hj => ?_, by simp⟩
    have : j < cs.size := by rw [hcs]; exact hj
    simp [this]
  · intro i row hi
    obtain ⟨h1, h2⟩ := hrow i row hi
    refine ⟨h1, fun j c hj => ?_⟩
    obtain ⟨x, hx1, hx2, hx3⟩ := h2 j c hj
    exact ⟨x, by simp [hn, hx1], hx2, hx3.mono hx⟩

theorem snd_box {x : Operand} {x' : Opd} {e : TypeId} {nm sz : Nat} (ho : (o.op = .box e x)) (hx : compX x = some x')
    (hr : HeapR w O ρ s.n s.h) (he : EvR (envOf w O ρ s.n s.h) s η) (hk : stepO P (.box nm sz x') s k) : Done P k w O ρ s.h s.n ((execOp η o).run P w) := by
  have hx := he.ev hx
  simp only [stepO] at hk
  generalize s.ev x' = vx at *
  unfold boxK at hk
  split at hk
  · rename_i cs hc
    obtain ⟨hl, hk⟩ := hk
    obtain ⟨hR, h1⟩ := hx.cells hc
    have : (execOp η o).run P w = .ok (.value (.pointer (some ⟨w.heap.size, 0, none⟩))) (w.alloc (.cells (η x).cells e)) := by
      simp [execOp, ho, Instr.box, newVar, newRow]
    rw [this]
    obtain ⟨ρ', hn, hr', hx'⟩ := hr.alloc nm sz 1 [cs] (η x).cells e (by rw [← hR.1, hl, Nat.one_mul]) (by simp) (fun i row hi => by
      cases i with
      | succ i => simp at hi
      | zero =>
        simp at hi; subst hi
        refine ⟨hl, fun j c hj => ?_⟩
        have hlt : j < (η x).cells.size := by have := (List.getElem?_eq_some_iff.1 hj).1; rw [← hR.1]; exact this
        exact ⟨(η x).cells[j], by simp [hlt], h1 j _ (by simp [hlt]), hR.2 j c _ hj (by simp [hlt])⟩)
    refine ⟨_, _, _, ρ', hk, hr', ?_, hx'⟩
    have := R.ptr (E := envOf (w.alloc (.cells (η x).cells e)) O ρ' (s.n + 1) (Heap.put s.h nm s.n (.rows sz [cs]))) nm s.n 0 0 (Nat.lt_succ_self _)
    simpa [hn] using this
  · exact hk.elim

theorem snd_alloc {e : TypeId} {nm sz : Nat} {z : Value} {zv : V} {i : TypeInfo} (ho : o.op = .alloc e) (hi : P.info? e = some i) (hz : i.zero = some z) (hzv : ∀ E : Env, R E zv z)
    (hr : HeapR w O ρ s.n s.h) (hk : stepO P (.box nm sz (.c zv)) s k) : Done P k w O ρ s.h s.n ((execOp η o).run P w) := by
  simp only [stepO, St.ev] at hk
  unfold boxK at hk
  split at hk
  · rename_i cs hc
    obtain ⟨hl, hk⟩ := hk
    obtain ⟨hR, h1⟩ := (hzv (envOf w O ρ s.n s.h)).cells hc
    have : (execOp η o).run P w = .ok (.value (.pointer (some ⟨w.heap.size, 0, none⟩))) (w.alloc (.cells z.cells e)) := by
      simp [execOp, ho, Instr.alloc, newVar, newRow, zeroValue, typeInfo, hi, hz]
    rw [this]
    obtain ⟨ρ', hn, hr', hx'⟩ := hr.alloc nm sz 1 [cs] z.cells e (by rw [← hR.1, hl, Nat.one_mul]) (by simp) (fun i row hi => by
      cases i with
      | succ i => simp at hi
      | zero =>
        simp at hi; subst hi
        refine ⟨hl, fun j c hj => ?_⟩
        have hlt : j < z.cells.size := by have := (List.getElem?_eq_some_iff.1 hj).1; rw [← hR.1]; exact this
        exact ⟨z.cells[j], by simp [hlt], h1 j _ (by simp [hlt]), hR.2 j c _ hj (by simp [hlt])⟩)
    refine ⟨_, _, _, ρ', hk, hr', ?_, hx'⟩
    have := R.ptr (E := envOf (w.alloc (.cells z.cells e)) O ρ' (s.n + 1) (Heap.put s.h nm s.n (.rows sz [cs]))) nm s.n 0 0 (Nat.lt_succ_self _)
    simpa [hn] using this
  · exact hk.elim

/-- What a row of memory reads as. -/
theorem row_load {E : Env} {b : Nat} {off : Nat} {row : List V} {j n : Nat} {agg : Bool} {r : V} {t : TypeId} (hR : RowR E b off row)
    (ht : tyOf P t = some (n, agg)) (h : loadRow row j n agg = some r) : ∃ v, (loadVar t ⟨b, off + j, none⟩).run P E.w = .ok v E.w ∧ R E r v := by
  cases agg with
  | true =>
    simp only [loadRow, cond_true] at h
    cases hb : Nat.ble (j + n) row.length with
    | false => rw [hb] at h; cases h
    | true =>
      rw [hb, cond_true] at h
      injection h with h
      subst h
      have hle := Nat.le_of_ble_eq_true hb
      have hex : ∀ i, ∃ x, i < n → E.w.cell? ⟨b, off + (j + i), none⟩ = some x ∧ x.oneCell' = true ∧ ∀ c, row[j + i]? = some c → R E c x := by
        intro i
        by_cases hi : i < n
        · have hlt : j + i < row.length := by omega
          obtain ⟨x, h1, h2, h3⟩ := hR (j + i) row[j + i] (by simp [hlt])
          exact ⟨x, fun _ => ⟨h1, h2, fun c hc => by simp [hlt] at hc; subst hc; exact h3⟩⟩
        · exact ⟨undef, fun h => (hi h).elim⟩
      let f := fun i => (hex i).choose
      have hf := fun i => (hex i).choose_spec
      have hrun : (loadCells ⟨b, off + j, none⟩ n).run P E.w = .ok ((List.range n).map f).toArray E.w :=
        run_loadCells E.w _ n f fun i hi => by
          have := (hf i hi).1
          have e : (⟨b, off + j, none⟩ : Addr).add i = ⟨b, off + (j + i), none⟩ := by
            unfold Addr.add
            split
            · rename_i h0; subst h0; rfl
            · simp [Nat.add_assoc]
          rw [e]; exact this
      refine ⟨.agg ((List.range n).map f).toArray, by simp [loadVar, run_isAgg ht, run_size ht, hrun], .agg _ _ (by simp; omega) ?_ ?_⟩
      · intro i v hi
        simp only [List.getElem?_toArray, List.getElem?_map, Option.map_eq_some_iff] at hi
        obtain ⟨i', hi', rfl⟩ := hi
        have : i' < n := by have := List.mem_of_getElem? hi'; simpa using this
        exact (hf i' this).2.1
      · intro i c v hi hv
        simp only [List.getElem?_toArray, List.getElem?_map, Option.map_eq_some_iff] at hv
        obtain ⟨i', hi', rfl⟩ := hv
        have hlt : i < n := by have := (List.getElem?_eq_some_iff.1 hi').1; simpa using this
        have : i' = i := by
          have := (List.getElem?_eq_some_iff.1 hi').2
          simpa using this.symm
        subst this
        rw [List.getElem?_take, if_pos hlt, List.getElem?_drop] at hi
        exact (hf i' hlt).2.2 c hi
  | false =>
    simp only [loadRow, cond_false] at h
    obtain ⟨x, h1, h2, h3⟩ := hR j r h
    exact ⟨x, by simp [loadVar, run_isAgg ht, h1], h3⟩

theorem snd_load {x : Operand} {x' : Opd} {t : TypeId} {n : Nat} {agg : Bool} (ho : o.op = .load t x) (ht : tyOf P t = some (n, agg)) (hx : compX x = some x')
    (hr : HeapR w O ρ s.n s.h) (he : EvR (envOf w O ρ s.n s.h) s η) (hk : stepO P (.load n agg x') s k) : Done P k w O ρ s.h s.n ((execOp η o).run P w) := by
  obtain ⟨r, h1, h2⟩ := optR_some hk
  have hx := he.ev hx
  generalize s.ev x' = vx at *
  unfold loadV at h1
  split at h1
  · rename_i b st i j
    split at h1
    · rename_i sz rs hg
      split at h1
      · rename_i row hrow
        have hb := hr.blk _ (Heap.mem_of_get hg)
        obtain ⟨hsz, hlen, hcell, hrows⟩ := hb
        obtain ⟨hl, hR⟩ := hrows i row hrow
        obtain ⟨v, hv, hRv⟩ := row_load (P := P) hR ht h1
        obtain ⟨_, hp⟩ := hx.ptr_inv
        have hsz' : (ρ st).sz = sz := hsz
        have hv' : (loadVar t ⟨(ρ st).blk, (ρ st).off + i * sz + j, none⟩).run P w = .ok v w := hv
        have : (execOp η o).run P w = .ok (.value v) w := by
          simp [execOp, ho, Instr.loadAt, hp, Instr.sureAddr, hsz', hv']
        rw [this]
        exact Done.val hr h2 hRv
      · cases h1
    · cases h1
  · rename_i es i j
    split at h1
    · rename_i row hrow
      generalize hvx : η x = vv at hx
      cases hx with
      | iptr _ _ _ p sz f hp hrowl hcell hR =>
        have hR' : RowR (envOf w O ρ s.n s.h) p.block (p.off + i * sz) row := fun j' c hj => ⟨f i j', (hcell i row j' c hrow hj).1, (hcell i row j' c hrow hj).2.1, hR i row j' c hrow hj⟩
        obtain ⟨v, hv, hRv⟩ := row_load (P := P) hR' ht h1
        have hv' : (loadVar t ⟨p.block, p.off + i * sz + j, none⟩).run P w = .ok v w := hv
        have : (execOp η o).run P w = .ok (.value v) w := by
          simp [execOp, ho, Instr.loadAt, hvx, Instr.sureAddr, hv']
        rw [this]
        exact Done.val hr h2 hRv
    · cases h1
  · cases h1

theorem snd_iaddr {x i : Operand} {x' i' : Opd} {t e : TypeId} {ti : TypeInfo} (ho : o.op = .indexAddr t x i) (ht : P.underlying t = some (.slice e)) (hti : P.info? e = some ti)
    (hx : compX x = some x') (hi : compX i = some i')
    (hr : HeapR w O ρ s.n s.h) (he : EvR (envOf w O ρ s.n s.h) s η) (hk : stepO P (.iaddr ti.size x' i') s k) : Done P k w O ρ s.h s.n ((execOp η o).run P w) := by
  have hx := he.ev hx
  have hi := he.ev hi
  simp only [stepO] at hk
  generalize s.ev x' = vx at *
  generalize s.ev i' = vi at *
  unfold iaddrK at hk
  split at hk
  · rename_i j z
    have ei := hi.int_inv
    have key : ∀ (a : Addr) (m c : Nat), η x = .slice (some a) m c → 0 ≤ z → z < m → (execOp η o).run P w = .ok (.value (.pointer (some (a.add (z.toNat * ti.size))))) w := by
      intro a m c ha h0 h1
      simp [execOp, ho, Instr.indexAt, run_underlying ht, ei, ha, asIntOf, h0, h1, sizeOf, typeInfo, hti]
    have add : ∀ (b o' m : Nat), (⟨b, o', none⟩ : Addr).add m = ⟨b, o' + m, none⟩ := by intro b o' m; unfold Addr.add; split <;> simp_all
    split at hk
    · rename_i b st i0 m
      obtain ⟨h0, h1, h2, h3⟩ := hk
      generalize hvx : η x = vv at hx
      have hsz : (ρ st).sz = ti.size := by
        unfold blkSz at h2
        split at h2
        · rename_i sz rs hg
          injection h2 with h2
          subst h2
          exact (hr.blk _ (Heap.mem_of_get hg)).1
        · cases h2
      cases hx with
      | sl _ _ _ _ cap hst hn hc =>
        rw [key _ _ _ hvx h0 h1, add]
        refine Done.val hr h3 ?_
        have := R.ptr (E := envOf w O ρ s.n s.h) b st (i0 + z.toNat) 0 hst
        have e2 : (ρ st).off + i0 * (ρ st).sz + z.toNat * ti.size = (ρ st).off + (i0 + z.toNat) * (ρ st).sz + 0 := by rw [hsz, Nat.add_mul]; omega
        show R _ _ (.pointer (some ⟨(ρ st).blk, (ρ st).off + i0 * (ρ st).sz + z.toNat * ti.size, none⟩))
        rw [e2]
        exact this
      | sl0 _ _ _ a => omega
    · rename_i es
      obtain ⟨h0, h1, h2, h3⟩ := hk
      generalize hvx : η x = vv at hx
      cases hx with
      | isl _ p cap sz f hp hcap hrow hcell hR =>
        rw [key _ _ _ hvx h0 h1]
        refine Done.val hr h3 ?_
        have hlt : z.toNat < es.length := by omega
        have hsz : sz = ti.size := by
          have a1 := hrow z.toNat es[z.toNat] (by simp [hlt])
          have a2 := h2 es[z.toNat] (List.getElem_mem hlt)
          omega
        subst hsz
        have := R.iptr (E := envOf w O ρ s.n s.h) es z.toNat 0 p ti.size f hp hrow hcell hR
        have e2 : p.add (z.toNat * ti.size) = ⟨p.block, p.off + z.toNat * ti.size + 0, none⟩ := by
          obtain ⟨pb, po, ps⟩ := p
          simp only at hp
          subst hp
          exact add pb po _
        rw [e2]
        exact this
      | isl0 a cap => simp at h1; omega
    · exact hk.elim
  · exact hk.elim

end
end Go.Abs
