/-
  The abstract meaning of append, of make, of slices that are cut or written out is the model's. No condition.
-/
import Derived.Test.YtlckjdhammcpaaaDoorSndF
set_option linter.unusedVariables false
set_option linter.unusedSimpArgs false
namespace Go.Abs
section
variable {P : Program} {k : Res} {w : World} {O : Nat → Prop} {ρ : Nat → Loc} {s : St} {η : Operand → Value} {o : Oper}

theorem RowR.append {E : Env} {b off : Nat} {xs ys : List V} (h1 : RowR E b off xs) (h2 : RowR E b (off + xs.length) ys) : RowR E b off (xs ++ ys) := by
  intro q c hq
  rw [List.getElem?_append] at hq
  split at hq
  · exact h1 q c hq
  · rename_i h
    obtain ⟨x, a, b⟩ := h2 _ c hq
    exact ⟨x, by rw [← a]; congr 2; omega, b⟩
theorem RowR.mono {E E' : Env} (hx : Ext E E') {b off : Nat} {cs : List V} (h : RowR E b off cs) (hw : ∀ q, q < cs.length → E'.w.cell? ⟨b, off + q, none⟩ = E.w.cell? ⟨b, off + q, none⟩) : RowR E' b off cs := by
  intro q c hq
  obtain ⟨x, h1, h2, h3⟩ := h q c hq
  exact ⟨x, by rw [hw q (List.getElem?_eq_some_iff.1 hq).1]; exact h1, h2, h3.mono hx⟩
theorem rowsz_append {xs ys : List (List V)} {sz : Nat} (h1 : rowsz xs sz) (h2 : rowsz ys sz) : rowsz (xs ++ ys) sz := fun r hr => by
  rcases List.mem_append.1 hr with h | h
  · exact h1 r h
  · exact h2 r h
theorem rowsz_sub {xs : List (List V)} {sz : Nat} (h : rowsz xs sz) (i m : Nat) : rowsz ((xs.drop i).take m) sz := fun r hr => h r (List.mem_of_mem_drop (List.mem_of_mem_take hr))

/-- A new row out of cells in a line. -/
theorem HeapR.allocFlat {h : Heap} {n : Nat} (hr : HeapR w O ρ n h) (nm sz cap : Nat) (rs : List (List V)) (cs : Array Value) (el : TypeId) (hcs : cs.size = cap * sz) (hl : rs.length ≤ cap) (hsz : rowsz rs sz)
    (hrow : ∀ (q : Nat) c, rs.flatten[q]? = some c → ∃ x, cs[q]? = some x ∧ x.oneCell' = true ∧ R (envOf w O ρ n h) c x) :
    ∃ ρ' : Nat → Loc, ρ' n = ⟨w.heap.size, 0, sz, cap⟩ ∧ HeapR (w.alloc (.cells cs el)) O ρ' (n + 1) (Heap.put h nm n (.rows sz rs)) ∧
      Ext (envOf w O ρ n h) (envOf (w.alloc (.cells cs el)) O ρ' (n + 1) (Heap.put h nm n (.rows sz rs))) :=
  hr.alloc nm sz cap rs cs el hcs hl fun i row hi => ⟨rowsz_get hsz i row hi, fun j c hj => by
    have hlt := (List.getElem?_eq_some_iff.1 hj).1
    rw [rowsz_get hsz i row hi] at hlt
    exact hrow (i * sz + j) c (by rw [flat_get hsz i j hlt, hi]; exact hj)⟩

theorem sl_whole {E : Env} {nm st m cap blk sz : Nat} (hst : st < E.n) (hρ : E.ρ st = ⟨blk, 0, sz, cap⟩) (hm : m ≤ cap) : R E (.sl nm st 0 m) (.slice (some ⟨blk, 0, none⟩) m cap) := by
  have := R.sl (E := E) nm st 0 m cap hst hm (by rw [hρ]; simp)
  simpa [hρ] using this

/-- A draw changes nothing of memory. -/
theorem HeapR.drew {h : Heap} {n : Nat} (hr : HeapR w O ρ n h) : HeapR w.drew O ρ n h ∧ Ext (envOf w O ρ n h) (envOf w.drew O ρ n h) := hr.world (Wd.drew _) fun _ _ => rfl

section
variable {t u ty e : TypeId} {i : TypeInfo} {z : Value}

theorem run_append_grown {du : TypeDesc} (ht : P.underlying t = some (.slice e)) (hu : P.underlying u = some du) (hd : (∃ e', du = .slice e') ∨ du = .string) (hi : P.info? e = some i) (hz : i.zero = some z)
    (base : Option Addr) (sLen sCap m : Nat) (x : Value) (olds news : List Value) (hlen : ∀ w', (Builtin.lenOf x).run P w' = .ok m w')
    (hold : ∀ w', (∀ a, w'.cell? a = w.cell? a) → (Builtin.firstCells i.size sLen (.slice base sLen sCap)).run P w' = .ok olds.toArray w') (hnew : ∀ w', (∀ a, w'.cell? a = w.cell? a) → (Builtin.firstCells i.size m x).run P w' = .ok news.toArray w')
    (hg : sCap < sLen + m) (h63 : sLen + m ≤ 137438953472) (hb : i.bytes ≤ 1024) :
    (Builtin.append_ #[t, u] ty #[.slice base sLen sCap, x]).run P w =
      .ok (.slice (some ⟨w.heap.size, 0, none⟩) (sLen + m) (grownCap w (sLen + m) sCap e))
        (w.drew.alloc (.cells (olds.toArray ++ news.toArray ++ Builtin.zeroCells z.cells (grownCap w (sLen + m) sCap e - (sLen + m))) e)) := by
  have hn : ¬ (sLen + m ≤ sCap) := by omega
  have h63' : ¬ (9223372036854775807 < ((sLen : Int) + (m : Int))) := by omega
  have h48' : ¬ (281474976710656 < Builtin.nextslicecap (sLen + m) sCap * i.bytes) := by
    have := growslice_fits (need := sLen + m) (old := sCap) (bytes := i.bytes) hg (Nat.le_trans (Nat.mul_le_mul h63 hb) (by decide))
    omega
  have h1 := hold w.drew fun _ => rfl
  have h2 := hnew w.drew fun _ => rfl
  have h3 := hlen w
  rcases hd with ⟨e', rfl⟩ | rfl
  · simp [Builtin.append_, run_underlying ht, run_underlying hu, sizeOf, typeInfo, zeroValue, hi, hz, h3, hn, h63', h48', Question.forced, h1, h2, newRow, grownCap]
    congr 2; apply Array.ext'; simp
  · simp [Builtin.append_, run_underlying ht, run_underlying hu, sizeOf, typeInfo, zeroValue, hi, hz, h3, hn, h63', h48', Question.forced, h1, h2, newRow, grownCap]
    congr 2; apply Array.ext'; simp

theorem run_append_fit {du : TypeDesc} (ht : P.underlying t = some (.slice e)) (hu : P.underlying u = some du) (hd : (∃ e', du = .slice e') ∨ du = .string) (hi : P.info? e = some i)
    (b off sLen sCap m : Nat) (x : Value) (news : List Value) (hlen : ∀ w', (Builtin.lenOf x).run P w' = .ok m w')
    (hnew : ∀ w', (∀ a, w'.cell? a = w.cell? a) → (Builtin.firstCells i.size m x).run P w' = .ok news.toArray w') (hg : sLen + m ≤ sCap)
    (hc : ∀ j, j < news.length → (w.cell? ⟨b, off + sLen * i.size + j, none⟩).isSome = true) (hf : ∀ j, j < news.length → w.frozen? ⟨b, off + sLen * i.size + j, none⟩ = false) (h1 : ∀ (q : Nat) u, news[q]? = some u → u.oneCell' = true) :
    (Builtin.append_ #[t, u] ty #[.slice (some ⟨b, off, none⟩) sLen sCap, x]).run P w = .ok (.slice (some ⟨b, off, none⟩) (sLen + m) sCap) (w.setCells b (off + sLen * i.size) news) := by
  have h2 := hnew w fun _ => rfl
  have h3 := hlen w
  have hst := run_storeCells_cells (P := P) b (off + sLen * i.size) news 0 w (by simpa using hc) (by simpa using hf) (fun v hv => by
    obtain ⟨q, hq⟩ := List.getElem?_of_mem hv; exact h1 q v hq)
  rcases hd with ⟨e', rfl⟩ | rfl
  · simp [Builtin.append_, run_underlying ht, run_underlying hu, sizeOf, typeInfo, hi, h3, hg, h2, add_lit, hst]
  · simp [Builtin.append_, run_underlying ht, run_underlying hu, sizeOf, typeInfo, hi, h3, hg, h2, add_lit, hst]

theorem run_append_zero {du : TypeDesc} (ht : P.underlying t = some (.slice e)) (hu : P.underlying u = some du) (hd : (∃ e', du = .slice e') ∨ du = .string) (hi : P.info? e = some i)
    (base : Option Addr) (x : Value) (hlen : ∀ w', (Builtin.lenOf x).run P w' = .ok 0 w')
    (hnew : ∀ w', (∀ a, w'.cell? a = w.cell? a) → (Builtin.firstCells i.size 0 x).run P w' = .ok #[] w') :
    (Builtin.append_ #[t, u] ty #[.slice base 0 0, x]).run P w = .ok (.slice base 0 0) w := by
  have h2 := hnew w fun _ => rfl
  have h3 := hlen w
  cases base <;> rcases hd with ⟨e', rfl⟩ | rfl <;> simp [Builtin.append_, run_underlying ht, run_underlying hu, sizeOf, typeInfo, hi, h3, h2, storeCells]
end

theorem RL.get_one {E : Env} {cs : List V} {vs : List Value} (h : RL E cs vs.toArray) (h1 : ∀ (q : Nat) u, vs[q]? = some u → u.oneCell' = true) (q : Nat) (c : V) (hq : cs[q]? = some c) : ∃ x, vs[q]? = some x ∧ x.oneCell' = true ∧ R E c x := by
  have hlt : q < vs.length := by have := (List.getElem?_eq_some_iff.1 hq).1; have := h.1; simp at this; omega
  exact ⟨vs[q], by simp [hlt], h1 q _ (by simp [hlt]), h.2 q c _ hq (by simp [hlt])⟩

/-- An append that makes a new row. -/
theorem append_grown {nm n : Nat} {h : Heap} (hr : HeapR w O ρ n h) {olds news : List Value} {os ns : List (List V)} {sz cap : Nat} {z : Value} {e : TypeId}
    (hos : rowsz os sz) (hns : rowsz ns sz) (ho : RL (envOf w O ρ n h) os.flatten olds.toArray) (ho1 : ∀ (q : Nat) u, olds[q]? = some u → u.oneCell' = true)
    (hn : RL (envOf w O ρ n h) ns.flatten news.toArray) (hn1 : ∀ (q : Nat) u, news[q]? = some u → u.oneCell' = true) (hz : z.cells.size = sz) (hcap : os.length + ns.length ≤ cap) :
    ∃ ρ' : Nat → Loc, ρ' n = ⟨w.heap.size, 0, sz, cap⟩ ∧
      HeapR (w.drew.alloc (.cells (olds.toArray ++ news.toArray ++ Builtin.zeroCells z.cells (cap - (os.length + ns.length))) e)) O ρ' (n + 1) (Heap.put h nm n (.rows sz (os ++ ns))) ∧
      Ext (envOf w O ρ n h) (envOf (w.drew.alloc (.cells (olds.toArray ++ news.toArray ++ Builtin.zeroCells z.cells (cap - (os.length + ns.length))) e)) O ρ' (n + 1) (Heap.put h nm n (.rows sz (os ++ ns)))) := by
  obtain ⟨hr1, hx1⟩ := hr.drew
  have l1 : olds.length = os.length * sz := by rw [← flat_length hos]; simpa using ho.1.symm
  have l2 : news.length = ns.length * sz := by rw [← flat_length hns]; simpa using hn.1.symm
  obtain ⟨ρ', h1, h2, h3⟩ := hr1.allocFlat nm sz cap (os ++ ns) (olds.toArray ++ news.toArray ++ Builtin.zeroCells z.cells (cap - (os.length + ns.length))) e
    (by
      simp only [Array.size_append, List.size_toArray, size_zeroCells, hz, l1, l2]
      rw [← Nat.add_mul, ← Nat.add_mul]
      congr 1; omega)
    (by simpa using hcap) (rowsz_append hos hns) (fun q c hq => by
      rw [List.flatten_append, List.getElem?_append] at hq
      split at hq
      · rename_i hlt
        obtain ⟨x, a1, a2, a3⟩ := ho.get_one ho1 q c hq
        refine ⟨x, ?_, a2, a3.mono hx1⟩
        have hlt' : q < olds.length := (List.getElem?_eq_some_iff.1 a1).1
        rw [Array.getElem?_append_left (by simp; omega), Array.getElem?_append_left (by simpa using hlt')]
        simpa using a1
      · rename_i hge
        rw [flat_length hos] at hq hge
        obtain ⟨x, a1, a2, a3⟩ := hn.get_one hn1 _ c hq
        refine ⟨x, ?_, a2, a3.mono hx1⟩
        have hlt' : q - os.length * sz < news.length := (List.getElem?_eq_some_iff.1 a1).1
        rw [Array.getElem?_append_left (by simp; omega), Array.getElem?_append_right (by simp; omega)]
        simpa [l1] using a1)
  exact ⟨ρ', h1, h2, hx1.trans h3⟩

/-- An append within the room of the row. -/
theorem append_fit {n : Nat} {h : Heap} (hr : HeapR w O ρ n h) {b st i m cap sz : Nat} {rs ns : List (List V)} {news : List Value} (hg : Heap.get h b st = some (.rows sz rs))
    (hle : i + m ≤ rs.length) (hc : i + cap ≤ (ρ st).cap) (hns : rowsz ns sz) (hn : RL (envOf w O ρ n h) ns.flatten news.toArray) (hn1 : ∀ (q : Nat) u, news[q]? = some u → u.oneCell' = true) (hfit : m + ns.length ≤ cap) (hcap : 0 < cap) :
    (∀ j, j < news.length → (w.cell? ⟨(ρ st).blk, (ρ st).off + i * sz + m * sz + j, none⟩).isSome = true) ∧ (∀ j, j < news.length → w.frozen? ⟨(ρ st).blk, (ρ st).off + i * sz + m * sz + j, none⟩ = false) ∧
    ∃ ρ' : Nat → Loc, ρ' n = ⟨(ρ st).blk, (ρ st).off + i * sz, sz, cap⟩ ∧
      HeapR (w.setCells (ρ st).blk ((ρ st).off + i * sz + m * sz) news) O ρ' (n + 1) (Heap.put h b n (.rows sz ((rs.drop i).take m ++ ns))) ∧
      Ext (envOf w O ρ n h) (envOf (w.setCells (ρ st).blk ((ρ st).off + i * sz + m * sz) news) O ρ' (n + 1) (Heap.put h b n (.rows sz ((rs.drop i).take m ++ ns)))) := by
  have hm := Heap.mem_of_get hg
  obtain ⟨hsz, hlen, hcell, hrows⟩ := hr.blk _ hm
  simp only at hsz hlen hcell hrows
  have hc0 : (ρ st).cap ≠ 0 := by omega
  obtain ⟨hcell, hblk⟩ := hcell hc0
  have l2 : news.length = ns.length * sz := by rw [← flat_length hns]; simpa using hn.1.symm
  have hin : ∀ q, q < cap * sz → i * sz + q < (ρ st).cap * sz := by
    intro q hq
    have h2 : (i + cap) * sz ≤ (ρ st).cap * sz := Nat.mul_le_mul_right _ hc
    rw [Nat.add_mul] at h2
    omega
  have hnew : ∀ j, j < news.length → m * sz + j < cap * sz := by
    intro j hj
    have h2 : (m + ns.length) * sz ≤ cap * sz := Nat.mul_le_mul_right _ hfit
    rw [Nat.add_mul] at h2
    omega
  have hsome : ∀ j, j < news.length → (w.cell? ⟨(ρ st).blk, (ρ st).off + i * sz + m * sz + j, none⟩).isSome = true := fun j hj => by
    have := (hcell _ (hin _ (hnew j hj))).1
    rwa [show (ρ st).off + (i * sz + (m * sz + j)) = (ρ st).off + i * sz + m * sz + j from by omega] at this
  refine ⟨hsome, fun j hj => ?_, ?_⟩
  · have := (hcell _ (hin _ (hnew j hj))).2
    rwa [show (ρ st).off + (i * sz + (m * sz + j)) = (ρ st).off + i * sz + m * sz + j from by omega] at this
  · let ρ' : Nat → Loc := fun x => if x = n then ⟨(ρ st).blk, (ρ st).off + i * sz, sz, cap⟩ else ρ x
    have hn' : ρ' n = ⟨(ρ st).blk, (ρ st).off + i * sz, sz, cap⟩ := by simp [ρ']
    refine ⟨ρ', hn', ?_⟩
    have hrsz : rowsz rs sz := rowsz_of fun i row hi => (hrows i row hi).1
    refine HeapR.step hr (Nat.le_succ _) (fun x hx => by simp [ρ', Nat.ne_of_lt hx]) (Nat.lt_succ_self _) (Wd.setCells _ _ _ _)
      (fun y _ hyb => setCells_heap_other _ _ _ _ _ fun e => by rw [hn'] at hyb; have := hyb e; simp at this; omega)
      (.inr (.inr ⟨_, hm, rfl, hc0, by rw [hn']⟩)) ?_
    intro hx
    have hvis : rowsz ((rs.drop i).take m) sz := rowsz_sub hrsz i m
    have hvl : ((rs.drop i).take m).length = m := by simp; omega
    have hall := rowsz_append hvis hns
    have hflat : RowR (envOf (w.setCells (ρ st).blk ((ρ st).off + i * sz + m * sz) news) O ρ' (n + 1) (Heap.put h b n (.rows sz ((rs.drop i).take m ++ ns)))) (ρ st).blk ((ρ st).off + i * sz) ((rs.drop i).take m ++ ns).flatten := by
      rw [List.flatten_append]
      refine RowR.append ?_ ?_
      · have h0 : RowR (envOf w O ρ n h) (ρ st).blk ((ρ st).off + i * sz) ((rs.drop i).take m).flatten := rows_flat hvis fun i' row hi => by
          rw [List.getElem?_take] at hi
          split at hi
          · rw [List.getElem?_drop] at hi
            have := (hrows (i + i') row hi).2
            rw [Nat.add_mul, ← Nat.add_assoc] at this
            exact this
          · cases hi
        refine h0.mono hx fun q hq => ?_
        rw [flat_length hvis, hvl] at hq
        exact World.cell?_setCells_out _ _ _ _ _ fun _ _ => .inl (by simp only; omega)
      · rw [flat_length hvis, hvl]
        intro q c hq
        obtain ⟨x, a1, a2, a3⟩ := hn.get_one hn1 q c hq
        have hlt' : q < news.length := (List.getElem?_eq_some_iff.1 a1).1
        refine ⟨x, ?_, a2, a3.mono hx⟩
        have hput := World.cell?_setCells_in (ρ st).blk news ((ρ st).off + i * sz + m * sz) w hsome q hlt'
        rw [List.getElem?_eq_getElem hlt'] at a1
        injection a1 with a1
        rw [← a1]
        exact hput
    refine ⟨by simp [hn'], by simp only [hn']; rw [List.length_append, hvl]; exact hfit, fun _ => ⟨fun j hj => ?_, by simp only [hn']; rw [setCells_size]; exact hblk⟩, fun i' row hi => ⟨rowsz_get hall i' row hi, ?_⟩⟩
    · simp only [hn'] at hj ⊢
      rw [setCells_isSome, World.frozen?_setCells]
      have := hcell _ (hin j hj)
      rwa [show (ρ st).off + (i * sz + j) = (ρ st).off + i * sz + j from by omega] at this
    · simp only [hn']
      exact flat_rows hall hflat i' row hi

theorem snd_app {x y : Operand} {x' y' : Opd} {t u e : TypeId} {nm : Nat} {ti : TypeInfo} {z : Value} {du : TypeDesc} (ho : o.op = .call { callee := .builtin .append, args := #[x, y], argTypes := #[t, u] })
    (ht : P.underlying t = some (.slice e)) (hu : P.underlying u = some du) (hd : (∃ e', du = .slice e') ∨ du = .string) (hi : P.info? e = some ti) (hz : ti.zero = some z) (hzs : z.cells.size = ti.size) (hb : ti.bytes ≤ 1024)
    (hx : compX x = some x') (hy : compX y = some y')
    (hr : HeapR w O ρ s.n s.h) (he : EvR (envOf w O ρ s.n s.h) s η) (hk : stepO P (.app nm ti.size x' y') s k) : Done P k w O ρ s.h s.n ((execOp η o).run P w) := by
  have hx := he.ev hx
  have hy := he.ev hy
  simp only [stepO] at hk
  generalize s.ev x' = vx at *
  generalize s.ev y' = vy at *
  have run : ∀ v w', (Builtin.append_ #[t, u] o.type #[η x, η y]).run P w = .ok v w' → (execOp η o).run P w = .ok (.value v) w' := by
    intro v w' h
    simp [execOp, ho, resolve, invoke, builtin, h]
  unfold appK at hk
  split at hk
  · exact hk.elim
  · rename_i xs hsrc
    obtain ⟨hxs, hk⟩ := hk
    obtain ⟨news, n1, n2, n3, n4, n5⟩ := src_cells hr hy hsrc hxs
    have growth : ∀ (base : Option Addr) (m cap : Nat) (os : List (List V)) (olds : List Value) (nm' : Nat), η x = .slice base m cap → os.length = m → rowsz os ti.size → RL (envOf w O ρ s.n s.h) os.flatten olds.toArray → (∀ (q : Nat) u, olds[q]? = some u → u.oneCell' = true) →
        (∀ w', (∀ a, w'.cell? a = w.cell? a) → (Builtin.firstCells ti.size m (.slice base m cap)).run P w' = .ok olds.toArray w') → cap < m + xs.length → m + xs.length ≤ 137438953472 →
        k (.sl nm' s.n 0 (m + xs.length)) (Heap.put s.h nm' s.n (.rows ti.size (os ++ xs))) (s.n + 1) → Done P k w O ρ s.h s.n ((execOp η o).run P w) := by
      intro base m cap os olds nm' hv hl hos holds ho1 hfirst hlt hbound hk
      have hrun := run_append_grown (w := w) (ty := o.type) ht hu hd hi hz base m cap xs.length (η y) olds news (n4 P) hfirst (n5 P) hlt hbound hb
      rw [run _ _ (by rw [hv]; exact hrun)]
      have hge := grownCap_ge w (m + xs.length) cap e
      subst hl
      obtain ⟨ρ', a1, a2, a3⟩ := append_grown (nm := nm') (e := e) hr hos hxs holds ho1 n2 n3 hzs hge
      exact ⟨_, _, _, ρ', hk, a2, sl_whole (Nat.lt_succ_self _) a1 hge, a3⟩
    have nothing : ∀ (base : Option Addr) (nm' : Nat), η x = .slice base 0 0 → xs = [] → k (.sl nm' s.n 0 0) (Heap.put s.h nm' s.n (.rows ti.size [])) (s.n + 1) → Done P k w O ρ s.h s.n ((execOp η o).run P w) := by
      intro base nm' hv hx0 hk2
      clear hk
      subst hx0
      have hn0 : news = [] := List.eq_nil_of_length_eq_zero (by simpa using n1)
      subst hn0
      have hrun := run_append_zero (w := w) (ty := o.type) ht hu hd hi base (η y) (n4 P) (n5 P)
      rw [run _ _ (by rw [hv]; exact hrun)]
      let ρ' : Nat → Loc := fun st => if st = s.n then ⟨0, 0, ti.size, 0⟩ else ρ st
      have hn : ρ' s.n = ⟨0, 0, ti.size, 0⟩ := by simp [ρ']
      obtain ⟨a2, a3⟩ := HeapR.step (w' := w) (ρ' := ρ') (n' := s.n + 1) (b := nm') (st := s.n) (x := .rows ti.size []) hr (Nat.le_succ _) (fun st hst => by simp [ρ', Nat.ne_of_lt hst]) (Nat.lt_succ_self _) (Wd.refl _)
        (fun _ _ _ => rfl) (.inl (by rw [hn])) (fun _ => ⟨by simp [hn], by simp, fun h => by simp [hn] at h, by simp⟩)
      exact ⟨_, _, _, ρ', hk2, a2, .sl0 _ _ _ _, a3⟩
    split at hk
    · obtain ⟨hb2, hk⟩ := hk
      have hv := hx.nils_inv
      by_cases h0 : xs = []
      · subst h0; exact nothing none nm hv rfl hk
      · have hpos : 0 < xs.length := List.length_pos_iff.2 h0
        refine growth none 0 0 [] [] nm hv rfl (by intro r hr; simp at hr) ⟨rfl, by simp⟩ (by simp) (fun w' _ => by simp [Builtin.firstCells]) (by omega) (by omega) ?_
        simpa using hk
    · rename_i b st i m
      split at hk
      · rename_i sz' rs hg
        obtain ⟨rfl, hle, hbound, hk⟩ := hk
        have hvl : ((rs.drop i).take m).length = m := by simp; omega
        have hrsz : rowsz rs ti.size := rowsz_of fun i row hi => ((hr.blk _ (Heap.mem_of_get hg)).2.2.2 i row hi).1
        have hview : viewV s.h (.sl b st i m) = some ((rs.drop i).take m) := by
          simp [viewV, hg, Nat.ble_eq_true_of_le hle]
        obtain ⟨p, cap, olds, o1, o2, o3, o4, o5⟩ := view_cells hr hx hview (rowsz_sub hrsz i m)
        rw [hvl] at o1 o5
        generalize hvx : η x = vv at hx
        have hsz : (ρ st).sz = ti.size := (hr.blk _ (Heap.mem_of_get hg)).1
        rw [hvx] at o1 o5
        cases hx with
        | sl _ _ _ _ cap' hst hn hc =>
          by_cases hfit : m + xs.length ≤ cap'
          · by_cases hc0 : cap' = 0
            · subst hc0
              have hm0 : m = 0 := by omega
              have hx0 : xs = [] := List.eq_nil_of_length_eq_zero (by omega)
              subst hm0; subst hx0
              exact nothing _ b hvx rfl (by simpa using hk)
            · obtain ⟨a1, a2, ρ', a3, a4, a5⟩ := append_fit hr hg hle hc hxs n2 n3 hfit (Nat.pos_of_ne_zero hc0)
              have hrun := run_append_fit (w := w) (ty := o.type) ht hu hd hi (ρ st).blk ((ρ st).off + i * ti.size) m cap' xs.length (η y) news (n4 P) (n5 P) hfit a1 a2 n3
              rw [run _ _ (by rw [hvx, hsz]; exact hrun)]
              refine ⟨_, _, _, ρ', hk, a4, ?_, a5⟩
              have := R.sl (E := envOf (w.setCells (ρ st).blk ((ρ st).off + i * ti.size + m * ti.size) news) O ρ' (s.n + 1) (Heap.put s.h b s.n (.rows ti.size ((rs.drop i).take m ++ xs)))) b s.n 0 (m + xs.length) cap' (Nat.lt_succ_self _) hfit (by simp [a3])
              simpa [a3] using this
          · injection o1 with o1 o1' o1''
            subst o1''
            exact growth _ m cap' _ olds b hvx hvl (rowsz_sub hrsz i m) o3 o4 (fun w' hw => o5 P w' hw) (by omega) hbound hk
        | sl0 _ _ _ a =>
          by_cases h0 : xs = []
          · subst h0; exact nothing a b hvx rfl (by simpa using hk)
          · have hpos : 0 < xs.length := List.length_pos_iff.2 h0
            injection o1 with o1 o1' o1''
            subst o1''
            exact growth _ 0 0 _ olds b hvx hvl (rowsz_sub hrsz i 0) o3 o4 (fun w' hw => o5 P w' hw) (by omega) hbound hk
      · exact hk.elim
    · exact hk.elim

end
end Go.Abs
