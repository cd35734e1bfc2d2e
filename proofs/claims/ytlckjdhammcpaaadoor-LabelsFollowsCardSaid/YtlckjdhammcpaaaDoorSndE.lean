/-
  The abstract meaning of stores, of struct values and of slices that are written out is the model's. No condition.
-/
import Derived.Test.YtlckjdhammcpaaaDoorSndD
set_option linter.unusedVariables false
set_option linter.unusedSimpArgs false
namespace Go.Abs
section
variable {P : Program} {k : Res} {w : World} {O : Nat → Prop} {ρ : Nat → Loc} {s : St} {η : Operand → Value} {o : Oper}

theorem setCell_heap_other (w : World) (a : Addr) (v : Value) (y : Nat) (h : y ≠ a.block) : (w.setCell a v).heap[y]? = w.heap[y]? := by
  simp only [World.setCell, Array.getElem?_modify]
  rw [if_neg (fun e => h e.symm)]
theorem setCells_heap_other (b : Nat) : ∀ (vs : List Value) (o : Nat) (w : World) (y : Nat), y ≠ b → (w.setCells b o vs).heap[y]? = w.heap[y]?
  | [], _, _, _, _ => rfl
  | v :: r, o, w, y, h => by rw [World.setCells, setCells_heap_other b r (o + 1) _ y h, setCell_heap_other _ _ _ _ h]
theorem setCells_size (b : Nat) : ∀ (vs : List Value) (o : Nat) (w : World), (w.setCells b o vs).heap.size = w.heap.size
  | [], _, _ => rfl
  | v :: r, o, w => by rw [World.setCells, setCells_size b r (o + 1)]; simp
theorem setCell_isSome (w : World) (a x : Addr) (v : Value) : ((w.setCell a v).cell? x).isSome = (w.cell? x).isSome := by
  by_cases h : a = x
  · subst h
    cases hc : w.cell? a with
    | some u => rw [World.cell?_setCell_same _ _ _ hc]; rfl
    | none =>
      unfold World.cell? at hc ⊢
      simp only [World.setCell, Array.getElem?_modify, if_true]
      cases hh : w.heap[a.block]? with
      | none => simp
      | some ob =>
        rw [hh] at hc
        cases ob <;> simp at hc ⊢
        cases hs : a.spot with
        | some _ => simp
        | none => simp [hs] at hc ⊢; exact hc
  · rw [World.cell?_setCell_other _ _ _ _ h]
theorem setCells_isSome (b : Nat) : ∀ (vs : List Value) (o : Nat) (w : World) (x : Addr), ((w.setCells b o vs).cell? x).isSome = (w.cell? x).isSome
  | [], _, _, _ => rfl
  | v :: r, o, w, x => by rw [World.setCells, setCells_isSome b r, setCell_isSome]
theorem Wd.setCell (w : World) (a : Addr) (v : Value) : Wd w (w.setCell a v) := ⟨by simp [World.setCell], rfl, rfl⟩
theorem Wd.setCells (b : Nat) : ∀ (vs : List Value) (o : Nat) (w : World), Wd w (w.setCells b o vs)
  | [], _, w => by rw [World.setCells]; exact .refl w
  | v :: r, o, w => by rw [World.setCells]; exact (Wd.setCell w _ v).trans (Wd.setCells b r (o + 1) _)

theorem run_storeVar_cells (w : World) (t : TypeId) (b o : Nat) (v : Value) {ti : TypeInfo} (hi : P.info? t = some ti) (hs : v.cells.size = ti.size)
    (hc : ∀ j, j < v.cells.size → (w.cell? ⟨b, o + j, none⟩).isSome = true) (hf : ∀ j, j < v.cells.size → w.frozen? ⟨b, o + j, none⟩ = false) (h1 : ∀ (i : Nat) u, v.cells[i]? = some u → u.oneCell' = true) :
    (storeVar t ⟨b, o, none⟩ v).run P w = .ok () (w.setCells b o v.cells.toList) := by
  have := run_storeCells_cells (P := P) b o v.cells.toList 0 w (by simpa using hc) (by simpa using hf) (fun u hu => by
    obtain ⟨i, hi, rfl⟩ := List.getElem_of_mem hu
    exact h1 i _ (by simp at hi; simp [hi]))
  simp [storeVar, sizeOf, typeInfo, hi, hs, this]

theorem putCells_length {z cs : List V} {off : Nat} (h : off + cs.length ≤ z.length) : (putCells z off cs).length = z.length := by
  simp [putCells]; omega
theorem putCells_get {z cs : List V} {off : Nat} (h : off + cs.length ≤ z.length) (j : Nat) : (putCells z off cs)[j]? = if off ≤ j ∧ j < off + cs.length then cs[j - off]? else z[j]? := by
  unfold putCells
  rw [List.append_assoc, List.getElem?_append]
  have ht : (z.take off).length = off := by simp; omega
  rw [ht]
  by_cases h1 : j < off
  · rw [if_pos h1, if_neg (by omega), List.getElem?_take, if_pos h1]
  · rw [if_neg h1, List.getElem?_append]
    by_cases h2 : j < off + cs.length
    · rw [if_pos (by omega), if_pos (by omega)]
    · rw [if_neg (by omega), if_neg (by omega), List.getElem?_drop]
      congr 1; omega

/-- A store into an abstract block. -/
theorem HeapR.store {h : Heap} {n : Nat} (hr : HeapR w O ρ n h) {b st i j : Nat} {sz : Nat} {rs : List (List V)} {row cs : List V} (hg : Heap.get h b st = some (.rows sz rs)) (hrow : rs[i]? = some row)
    (hle : j + cs.length ≤ row.length) {vs : Array Value} (hcs : RL (envOf w O ρ n h) cs vs) (h1 : ∀ (i : Nat) u, vs[i]? = some u → u.oneCell' = true) :
    (∀ j', j' < vs.size → (w.cell? ⟨(ρ st).blk, (ρ st).off + i * sz + j + j', none⟩).isSome = true) ∧ (∀ j', j' < vs.size → w.frozen? ⟨(ρ st).blk, (ρ st).off + i * sz + j + j', none⟩ = false) ∧
    HeapR (w.setCells (ρ st).blk ((ρ st).off + i * sz + j) vs.toList) O ρ n (Heap.put h b st (.rows sz (rs.set i (putCells row j cs)))) ∧
      Ext (envOf w O ρ n h) (envOf (w.setCells (ρ st).blk ((ρ st).off + i * sz + j) vs.toList) O ρ n (Heap.put h b st (.rows sz (rs.set i (putCells row j cs))))) := by
  have hm := Heap.mem_of_get hg
  obtain ⟨hsz, hlen, hcell, hrows⟩ := hr.blk _ hm
  simp only at hsz hlen hcell hrows
  obtain ⟨hl, hR⟩ := hrows i row hrow
  have hi := (List.getElem?_eq_some_iff.1 hrow).1
  have hc : (ρ st).cap ≠ 0 := by omega
  obtain ⟨hcell, hblk⟩ := hcell hc
  have hcl : cs.length = vs.size := hcs.1
  have hin : ∀ j', j' < vs.size → i * sz + j + j' < (ρ st).cap * sz := by
    intro j' hj
    have h2 : (i + 1) * sz ≤ (ρ st).cap * sz := Nat.mul_le_mul_right _ (by omega)
    rw [Nat.add_mul, Nat.one_mul] at h2
    omega
  have hsome : ∀ j', j' < vs.size → (w.cell? ⟨(ρ st).blk, (ρ st).off + i * sz + j + j', none⟩).isSome = true := fun j' hj => by
    have := (hcell (i * sz + j + j') (hin j' hj)).1
    rwa [show (ρ st).off + (i * sz + j + j') = (ρ st).off + i * sz + j + j' from by omega] at this
  refine ⟨hsome, fun j' hj => ?_, ?_⟩
  · have := (hcell (i * sz + j + j') (hin j' hj)).2
    rwa [show (ρ st).off + (i * sz + j + j') = (ρ st).off + i * sz + j + j' from by omega] at this
  · refine HeapR.step hr (Nat.le_refl _) (fun _ _ => rfl) (hr.lt _ hm) (Wd.setCells _ _ _ _)
      (fun y hy hyb => setCells_heap_other _ _ _ _ _ fun e => hc (hyb e)) (.inr (.inr ⟨_, hm, rfl, hc, rfl⟩)) ?_
    intro hx
    refine ⟨hsz, by simpa using hlen, fun _ => ⟨fun j' hj => ?_, by rw [setCells_size]; exact hblk⟩, ?_⟩
    · rw [setCells_isSome, World.frozen?_setCells]
      exact hcell j' hj
    · intro i' row' hi'
      by_cases hii : i = i'
      · subst hii
        have hset : (rs.set i (putCells row j cs))[i]? = some (putCells row j cs) := by simp [hi]
        rw [hset] at hi'
        · injection hi' with hi'
          subst hi'
          refine ⟨by rw [putCells_length hle]; exact hl, fun j' c hj => ?_⟩
          rw [putCells_get hle] at hj
          split at hj
          · rename_i hin'
            have hlt : j' - j < vs.size := by omega
            have hput := World.cell?_setCells_in (ρ st).blk vs.toList ((ρ st).off + i * sz + j) w (by simpa using hsome) (j' - j) (by simpa using hlt)
            refine ⟨vs[j' - j], ?_, h1 (j' - j) vs[j' - j] (by simp [hlt]), (hcs.2 (j' - j) c vs[j' - j] hj (by simp [hlt])).mono hx⟩
            rw [show (ρ st).off + i * sz + j' = (ρ st).off + i * sz + j + (j' - j) from by omega]
            simpa using hput
          · rename_i hout
            obtain ⟨x, hx1, hx2, hx3⟩ := hR j' c hj
            refine ⟨x, ?_, hx2, hx3.mono hx⟩
            simp only
            rw [World.cell?_setCells_out]
            · exact hx1
            · intro _ _
              simp only [Array.length_toList]
              omega
      · rw [List.getElem?_set_ne hii] at hi'
        obtain ⟨hl', hR'⟩ := hrows i' row' hi'
        refine ⟨hl', fun j' c hj => ?_⟩
        obtain ⟨x, hx1, hx2, hx3⟩ := hR' j' c hj
        refine ⟨x, ?_, hx2, hx3.mono hx⟩
        simp only
        rw [World.cell?_setCells_out]
        · exact hx1
        · intro _ _
          simp only [Array.length_toList]
          have hj' : j' < sz := by have := (List.getElem?_eq_some_iff.1 hj).1; omega
          have hjn : j + vs.size ≤ sz := by omega
          rcases Nat.lt_or_gt_of_ne hii with h2 | h2
          · right
            have : (i + 1) * sz ≤ i' * sz := Nat.mul_le_mul_right _ h2
            rw [Nat.add_mul, Nat.one_mul] at this
            omega
          · left
            have : (i' + 1) * sz ≤ i * sz := Nat.mul_le_mul_right _ h2
            rw [Nat.add_mul, Nat.one_mul] at this
            omega

theorem snd_store {x v : Operand} {x' v' : Opd} {t : TypeId} {ti : TypeInfo} (ho : o.op = .store t x v) (hi : P.info? t = some ti) (hx : compX x = some x') (hv : compX v = some v')
    (hr : HeapR w O ρ s.n s.h) (he : EvR (envOf w O ρ s.n s.h) s η) (hk : stepO P (.store ti.size x' v') s k) : Done P k w O ρ s.h s.n ((execOp η o).run P w) := by
  have hx := he.ev hx
  have hv := he.ev hv
  simp only [stepO] at hk
  generalize s.ev x' = vx at *
  generalize s.ev v' = vv at *
  cases hs : storeV s.h vx vv ti.size with
  | none => rw [hs] at hk; exact hk.elim
  | some h' =>
    rw [hs] at hk
    unfold storeV at hs
    split at hs
    · rename_i b st i j
      unfold storeIn at hs
      split at hs
      · rename_i sz rs cs hg hcs
        split at hs
        · rename_i row hrow
          cases hb : (Nat.beq cs.length ti.size && Nat.ble (j + ti.size) row.length) with
          | false => rw [hb] at hs; cases hs
          | true =>
            rw [hb, cond_true] at hs
            injection hs with hs
            subst hs
            rw [Bool.and_eq_true] at hb
            have e1 := Nat.eq_of_beq_eq_true hb.1
            have e2 := Nat.le_of_ble_eq_true hb.2
            obtain ⟨hR, h1⟩ := hv.cells hcs
            have hle : j + cs.length ≤ row.length := by omega
            obtain ⟨a1, a2, a3, a4⟩ := hr.store hg hrow hle hR h1
            obtain ⟨_, hp⟩ := hx.ptr_inv
            have hsz : (ρ st).sz = sz := (hr.blk _ (Heap.mem_of_get hg)).1
            have hrun := run_storeVar_cells (P := P) w t (ρ st).blk ((ρ st).off + i * sz + j) (η v) hi (by rw [← hR.1]; exact e1) a1 a2 h1
            have : (execOp η o).run P w = .ok .skip (w.setCells (ρ st).blk ((ρ st).off + i * sz + j) (η v).cells.toList) := by
              simp [execOp, ho, Instr.storeAt, hp, Instr.sureAddr, hsz, hrun]
            rw [this]
            exact ⟨_, _, _, ρ, hk, a3, .undef _, a4⟩
        · cases hs
      · cases hs
    · cases hs

/-! Values that are written out. -/

theorem fold_put (vs : Array Value) : ∀ (cs : Array Value) (off : Nat), off + vs.size ≤ cs.size →
    (vs.zipIdx.foldl (fun cs p => cs.setIfInBounds (off + p.2) p.1) cs).toList = cs.toList.take off ++ vs.toList ++ cs.toList.drop (off + vs.size) := by
  intro cs off h
  have key : ∀ (l : List Value) (k : Nat) (cs : Array Value), off + k + l.length ≤ cs.size →
      ((l.zipIdx k).foldl (fun cs p => cs.setIfInBounds (off + p.2) p.1) cs).toList = cs.toList.take (off + k) ++ l ++ cs.toList.drop (off + k + l.length) := by
    intro l
    induction l with
    | nil => intro k cs h; simp
    | cons v r ih =>
      intro k cs h
      simp only [List.zipIdx_cons, List.foldl_cons]
      simp at h
      rw [ih (k + 1) (cs.setIfInBounds (off + k) v) (by simp; omega)]
      apply List.ext_getElem?
      intro i
      simp only [Array.toList_setIfInBounds, List.append_assoc]
      rw [List.getElem?_append (l₁ := List.take (off + (k + 1)) _), List.getElem?_append (l₁ := List.take (off + k) _)]
      simp only [List.length_take, List.length_set, Array.length_toList]
      have e1 : min (off + (k + 1)) cs.size = off + k + 1 := by omega
      have e2 : min (off + k) cs.size = off + k := by omega
      rw [e1, e2]
      by_cases h1 : i < off + k
      · rw [if_pos (by omega), if_pos h1]
        simp only [List.getElem?_take, List.getElem?_set]
        rw [if_pos (by omega), if_pos h1, if_neg (by omega)]
      · by_cases h2 : i = off + k
        · subst h2
          rw [if_pos (by omega), if_neg (by omega)]
          simp only [List.getElem?_take, List.getElem?_set]
          have hlt : off + k < cs.size := by omega
          rw [if_pos (by omega)]
          simp [hlt]
        · rw [if_neg (by omega), if_neg h1]
          simp only [List.cons_append]
          have e3 : i - (off + k) = (i - (off + k + 1)) + 1 := by omega
          rw [e3, List.getElem?_cons_succ, List.getElem?_append, List.getElem?_append]
          split
          · rfl
          · simp only [List.getElem?_drop, List.getElem?_set, List.length_cons]
            rw [if_neg (by omega)]
            congr 1; omega
  have := key vs.toList 0 cs (by simpa using h)
  rw [← Array.foldl_toList, Array.toList_zipIdx]
  simpa using this

theorem fold_put' (vs : Array Value) (cs : Array Value) (off : Nat) (h : off + vs.size ≤ cs.size) :
    (vs.zipIdx.foldl (fun cs (x : Value × Nat) => match x with | (c, j) => cs.setIfInBounds (off + j) c) cs).toList = cs.toList.take off ++ vs.toList ++ cs.toList.drop (off + vs.size) := fold_put vs cs off h

/-- Cells with others put in. -/
theorem RL.put {E : Env} {z cs : List V} {zs vs zs' : Array Value} {off : Nat} (hz : RL E z zs) (hc : RL E cs vs) (hle : off + cs.length ≤ z.length) (he : zs'.toList = zs.toList.take off ++ vs.toList ++ zs.toList.drop (off + vs.size)) :
    RL E (putCells z off cs) zs' := by
  have h1 := hz.1
  have h2 := hc.1
  have hs : zs'.size = zs.size := by
    rw [← Array.length_toList, he]; simp; omega
  refine ⟨by rw [putCells_length hle, hs, h1], fun i c v hi hv => ?_⟩
  rw [putCells_get hle] at hi
  rw [← Array.getElem?_toList, he, List.append_assoc, List.getElem?_append, List.getElem?_append] at hv
  simp only [List.length_take, Array.length_toList] at hv
  have e1 : min off zs.size = off := by omega
  rw [e1] at hv
  split at hi
  · rename_i h3
    rw [if_neg (by omega), if_pos (by omega)] at hv
    exact hc.2 (i - off) c v hi (by simpa using hv)
  · rename_i h3
    by_cases h4 : i < off
    · rw [if_pos h4, List.getElem?_take, if_pos h4] at hv
      exact hz.2 i c v hi (by simpa using hv)
    · rw [if_neg h4, if_neg (by omega), List.getElem?_drop] at hv
      rw [show off + vs.size + (i - off - vs.size) = i from by omega] at hv
      exact hz.2 i c v hi (by simpa using hv)

theorem one_put {zs vs zs' : Array Value} {off : Nat} (hz : ∀ (i : Nat) v, zs[i]? = some v → v.oneCell' = true) (hc : ∀ (i : Nat) v, vs[i]? = some v → v.oneCell' = true)
    (he : zs'.toList = zs.toList.take off ++ vs.toList ++ zs.toList.drop (off + vs.size)) : ∀ (i : Nat) v, zs'[i]? = some v → v.oneCell' = true := by
  intro i v hv
  rw [← Array.getElem?_toList, he] at hv
  have hmem := List.mem_of_getElem? hv
  simp only [List.append_assoc, List.mem_append] at hmem
  rcases hmem with h | h | h
  · obtain ⟨j, hj⟩ := List.getElem?_of_mem (List.mem_of_mem_take h); exact hz j v (by simpa using hj)
  · obtain ⟨j, hj⟩ := List.getElem?_of_mem h; exact hc j v (by simpa using hj)
  · obtain ⟨j, hj⟩ := List.getElem?_of_mem (List.mem_of_mem_drop h); exact hz j v (by simpa using hj)

/-- The parts of a value, each with its place. -/
def compPs (place : Nat → Option (Nat × Nat)) : List (Nat × Operand) → Option (List (Nat × Nat × Opd))
  | [] => some []
  | p :: r => match place p.1, compX p.2, compPs place r with
    | some q, some y, some qs => some ((q.1, q.2, y) :: qs)
    | _, _, _ => none

theorem fill_R {place : Nat → Option (Nat × Nat)} : ∀ (ps : List (Nat × Operand)) (qs : List (Nat × Nat × Opd)) (z z' : List V) (zs : Array Value), compPs place ps = some qs → EvR (envOf w O ρ s.n s.h) s η →
    RL (envOf w O ρ s.n s.h) z zs → (∀ (i : Nat) v, zs[i]? = some v → v.oneCell' = true) → fillV s z qs = some z' →
    ∃ zs', Instr.fill place zs (ps.map fun p => (p.1, η p.2)) = some zs' ∧ RL (envOf w O ρ s.n s.h) z' zs' ∧ ∀ (i : Nat) v, zs'[i]? = some v → v.oneCell' = true
  | [], qs, z, z', zs, hp, _, hz, h1, hf => by
    simp [compPs] at hp; subst hp
    simp [fillV] at hf; subst hf
    exact ⟨zs, rfl, hz, h1⟩
  | p :: r, qs, z, z', zs, hp, he, hz, h1, hf => by
    simp only [compPs] at hp
    split at hp
    · rename_i q y qs' hq hy hqs
      injection hp with hp
      subst hp
      simp only [fillV] at hf
      split at hf
      · rename_i cs hcs
        cases hb : (Nat.beq cs.length q.2 && Nat.ble (q.1 + cs.length) z.length) with
        | false => rw [hb] at hf; cases hf
        | true =>
          rw [hb, cond_true] at hf
          rw [Bool.and_eq_true] at hb
          have e1 := Nat.eq_of_beq_eq_true hb.1
          have e2 := Nat.le_of_ble_eq_true hb.2
          obtain ⟨hR, h1c⟩ := (he.ev hy).cells hcs
          have hle : q.1 + (η p.2).cells.size ≤ zs.size := by rw [← hR.1, ← hz.1]; exact e2
          have hfold := fold_put' (η p.2).cells zs q.1 hle
          obtain ⟨zs', a1, a2, a3⟩ := fill_R r qs' _ z' _ hqs he (hz.put hR e2 hfold) (one_put h1 h1c hfold) hf
          refine ⟨zs', ?_, a2, a3⟩
          simp only [List.map_cons, Instr.fill, hq]
          have hsz : (η p.2).cells.size = q.2 := by rw [← hR.1]; exact e1
          rw [if_neg]
          · exact a1
          · rw [hsz]
            simp
            omega
      · cases hf
    · cases hp

theorem run_fields (w : World) (fs : List Field) (g : Field → Option (Nat × Nat)) (pl : List (Nat × Nat)) (hg : ∀ f q, g f = some q → ∃ i, P.info? f.type = some i ∧ q = (f.offset, i.size)) (h : fs.mapM g = some pl) :
    (fs.mapM (m := Sem) fun f => do pure (f.offset, ← sizeOf f.type)).run P w = .ok pl w := by
  induction fs generalizing pl with
  | nil => simp at h; subst h; rfl
  | cons f r ih =>
    rw [List.mapM_cons] at h ⊢
    cases h1 : g f with
    | none => simp [h1] at h
    | some q =>
      cases h2 : r.mapM g with
      | none => simp [h1, h2] at h
      | some qs =>
        simp [h1, h2] at h
        subst h
        obtain ⟨i, hi, rfl⟩ := hg f q h1
        rw [Sem.run_bind, show (do let s ← sizeOf f.type; pure (f.offset, s) : Sem (Nat × Nat)).run P w = .ok (f.offset, i.size) w from by simp [sizeOf, typeInfo, hi]]
        simp only [Result.andThen_ok, Sem.run_bind, ih qs h2, Sem.run_pure]

def placeOf (P : Program) (f : Field) : Option (Nat × Nat) := (P.info? f.type).map fun i => (f.offset, i.size)

theorem snd_build {t : TypeId} {parts : Array (Nat × Operand)} {fs : Array Field} {pl : List (Nat × Nat)} {qs : List (Nat × Nat × Opd)} {z : List V} {ti : TypeInfo} {zv : Value} (ho : o.op = .build t parts)
    (ht : P.underlying t = some (.struct fs)) (hpl : fs.toList.mapM (placeOf P) = some pl) (hi : P.info? t = some ti) (hz : ti.zero = some zv)
    (hzs : ∀ E : Env, RL E z zv.cells) (h1 : ∀ (i : Nat) v, zv.cells[i]? = some v → v.oneCell' = true) (hp : compPs (pl[·]?) parts.toList = some qs)
    (hr : HeapR w O ρ s.n s.h) (he : EvR (envOf w O ρ s.n s.h) s η) (hk : stepO P (.build z qs) s k) : Done P k w O ρ s.h s.n ((execOp η o).run P w) := by
  obtain ⟨r, hf, h2⟩ := optR_some hk
  rw [Option.map_eq_some_iff] at hf
  obtain ⟨z', hf, rfl⟩ := hf
  obtain ⟨zs', a1, a2, a3⟩ := fill_R parts.toList qs z z' zv.cells hp he (hzs _) h1 hf
  have hrun := run_fields (P := P) w fs.toList (placeOf P) pl (fun f q hq => by
    simp only [placeOf, Option.map_eq_some_iff] at hq
    obtain ⟨i, hi, rfl⟩ := hq
    exact ⟨i, hi, rfl⟩) hpl
  have hmap : (fs.mapM (m := Sem) fun f => do pure (f.offset, ← sizeOf f.type)).run P w = .ok pl.toArray w := by
    rw [Array.mapM_eq_mapM_toList]
    simp only [Sem.run_map, hrun, Result.andThen_ok]
  have : (execOp η o).run P w = .ok (.value (.agg zs')) w := by
    have e : (parts.map fun (x : Nat × Operand) => match x with | (i, x) => (i, η x)).toList = parts.toList.map fun p => (p.1, η p.2) := by
      rw [Array.toList_map]
    simp only [execOp, ho, Instr.build, Sem.run_bind, zeroValue, typeInfo, run_program, Result.andThen_ok, hi, Sem.run_pure, hz, run_underlying ht, hmap, e]
    have e2 : (fun x => pl.toArray[x]?) = (pl[·]? : Nat → Option (Nat × Nat)) := by funext x; simp
    rw [e2, a1]
    rfl
  rw [this]
  exact Done.val hr h2 (.agg _ _ a2.1 a3 a2.2)

theorem snd_buildA {t e : TypeId} {len : Nat} {parts : Array (Nat × Operand)} {qs : List (Nat × Nat × Opd)} {z : List V} {ti ei : TypeInfo} {zv : Value} (ho : o.op = .build t parts)
    (ht : P.underlying t = some (.array len e)) (hei : P.info? e = some ei) (hi : P.info? t = some ti) (hz : ti.zero = some zv)
    (hzs : ∀ E : Env, RL E z zv.cells) (h1 : ∀ (i : Nat) v, zv.cells[i]? = some v → v.oneCell' = true) (hp : compPs (fun i => some (i * ei.size, ei.size)) parts.toList = some qs)
    (hr : HeapR w O ρ s.n s.h) (he : EvR (envOf w O ρ s.n s.h) s η) (hk : stepO P (.build z qs) s k) : Done P k w O ρ s.h s.n ((execOp η o).run P w) := by
  obtain ⟨r, hf, h2⟩ := optR_some hk
  rw [Option.map_eq_some_iff] at hf
  obtain ⟨z', hf, rfl⟩ := hf
  obtain ⟨zs', a1, a2, a3⟩ := fill_R parts.toList qs z z' zv.cells hp he (hzs _) h1 hf
  have : (execOp η o).run P w = .ok (.value (.agg zs')) w := by
    have e1 : (parts.map fun (x : Nat × Operand) => match x with | (i, x) => (i, η x)).toList = parts.toList.map fun p => (p.1, η p.2) := by
      rw [Array.toList_map]
    simp only [execOp, ho, Instr.build, Sem.run_bind, zeroValue, typeInfo, run_program, Result.andThen_ok, hi, Sem.run_pure, hz, run_underlying ht, sizeOf, hei, e1, a1]
  rw [this]
  exact Done.val hr h2 (.agg _ _ a2.1 a3 a2.2)

end
end Go.Abs
