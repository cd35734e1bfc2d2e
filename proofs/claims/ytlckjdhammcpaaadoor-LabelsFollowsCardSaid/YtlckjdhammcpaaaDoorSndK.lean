/-
  The abstract meaning of copy is the model's. No condition.
-/
import Derived.Test.YtlckjdhammcpaaaDoorSndJ
set_option linter.unusedVariables false
set_option linter.unusedSimpArgs false
namespace Go.Abs
section
variable {P : Program} {k : Res} {w : World} {O : Nat → Prop} {ρ : Nat → Loc} {s : St} {η : Operand → Value} {o : Oper}

theorem src_take {h : Heap} {n : Nat} {x : V} {v : Value} {rs : List (List V)} (hx : R (envOf w O ρ n h) x v) (hv : srcV h x = some rs) (k : Nat) (hk : k ≤ rs.length) :
    ∃ x' v', R (envOf w O ρ n h) x' v' ∧ srcV h x' = some (rs.take k) ∧ ∀ (P : Program) (w' : World) (sz : Nat), (Builtin.firstCells sz k v').run P w' = (Builtin.firstCells sz k v).run P w' := by
  unfold srcV at hv
  split at hv
  · rename_i b
    injection hv with hv
    subst hv
    rw [hx.str_inv]
    refine ⟨.str (b.take k), _, .str _, by simp [srcV, strRows, List.map_take], fun P w' sz => ?_⟩
    simp only [Builtin.firstCells, Sem.run_pure]
    congr 1
    apply Array.ext'
    simp [List.take_take]
  · rename_i hnostr
    clear hnostr
    unfold viewV at hv
    split at hv
    · injection hv with hv
      subst hv
      exact ⟨.nils, _, hx, by simp [srcV, viewV], fun _ _ _ => rfl⟩
    · injection hv with hv
      subst hv
      rename_i rs
      cases hx with
      | isl _ p cap sz f hp hcap hrow hcell hR =>
        refine ⟨.isl (rs.take k), .slice (some p) (rs.take k).length cap, .isl (rs.take k) p cap sz f hp (by simp; omega) (fun i row hi => ?_) (fun i row j c hi => ?_) (fun i row j c hi => ?_), rfl, fun _ _ _ => rfl⟩
        · rw [List.getElem?_take] at hi; split at hi
          · exact hrow i row hi
          · cases hi
        · rw [List.getElem?_take] at hi; split at hi
          · exact hcell i row j c hi
          · cases hi
        · rw [List.getElem?_take] at hi; split at hi
          · exact hR i row j c hi
          · cases hi
      | isl0 a cap => exact ⟨.isl [], _, .isl0 a cap, by simp [srcV, viewV], fun _ _ _ => rfl⟩
    · rename_i b st i m
      split at hv
      · rename_i sz rs' hg
        cases hb : Nat.ble (i + m) rs'.length with
        | false => rw [hb] at hv; cases hv
        | true =>
          rw [hb, cond_true] at hv
          injection hv with hv
          subst hv
          have hle := Nat.le_of_ble_eq_true hb
          have hkm : k ≤ m := by simp at hk; omega
          have hview : srcV h (.sl b st i k) = some (((rs'.drop i).take m).take k) := by
            simp only [srcV, viewV, hg]
            rw [Nat.ble_eq_true_of_le (by omega), cond_true, List.take_take, Nat.min_eq_left hkm]
          cases hx with
          | sl _ _ _ _ cap hst hn hc => exact ⟨.sl b st i k, _, .sl b st i k cap hst (by omega) hc, hview, fun _ _ _ => rfl⟩
          | sl0 _ _ _ a =>
            have : k = 0 := by omega
            subst this
            exact ⟨.sl b st i 0, _, .sl0 b st i a, hview, fun _ _ _ => rfl⟩
      · rename_i hno
        cases hb : Nat.beq m 0 with
        | false => rw [hb] at hv; cases hv
        | true =>
          rw [hb, cond_true] at hv
          injection hv with hv
          subst hv
          have : k = 0 := by simpa using hk
          subst this
          have hm := Nat.eq_of_beq_eq_true hb
          subst hm
          refine ⟨_, _, hx, ?_, fun _ _ _ => rfl⟩
          simp only [srcV, viewV]
          rfl
    · cases hv

theorem copy_in {n : Nat} {h : Heap} (hr : HeapR w O ρ n h) {b st i sz : Nat} {rs ns : List (List V)} {news : List Value} (hg : Heap.get h b st = some (.rows sz rs))
    (hle : i + ns.length ≤ rs.length) (hns : rowsz ns sz) (hn : RL (envOf w O ρ n h) ns.flatten news.toArray) (hn1 : ∀ (q : Nat) u, news[q]? = some u → u.oneCell' = true) (hpos : 0 < ns.length) :
    (∀ j, j < news.length → (w.cell? ⟨(ρ st).blk, (ρ st).off + i * sz + j, none⟩).isSome = true) ∧ (∀ j, j < news.length → w.frozen? ⟨(ρ st).blk, (ρ st).off + i * sz + j, none⟩ = false) ∧
      HeapR (w.setCells (ρ st).blk ((ρ st).off + i * sz) news) O ρ n (Heap.put h b st (.rows sz (rs.take i ++ ns ++ rs.drop (i + ns.length)))) ∧
      Ext (envOf w O ρ n h) (envOf (w.setCells (ρ st).blk ((ρ st).off + i * sz) news) O ρ n (Heap.put h b st (.rows sz (rs.take i ++ ns ++ rs.drop (i + ns.length))))) := by
  have hm := Heap.mem_of_get hg
  obtain ⟨hsz, hlen, hcell, hrows⟩ := hr.blk _ hm
  simp only at hsz hlen hcell hrows
  have hc0 : (ρ st).cap ≠ 0 := by omega
  obtain ⟨hcell, hblk⟩ := hcell hc0
  have l2 : news.length = ns.length * sz := by rw [← flat_length hns]; simpa using hn.1.symm
  have hin : ∀ q, q < news.length → i * sz + q < (ρ st).cap * sz := by
    intro q hq
    have h2 : (i + ns.length) * sz ≤ (ρ st).cap * sz := Nat.mul_le_mul_right _ (by omega)
    rw [Nat.add_mul] at h2
    omega
  have hsome : ∀ j, j < news.length → (w.cell? ⟨(ρ st).blk, (ρ st).off + i * sz + j, none⟩).isSome = true := fun j hj => by
    have := (hcell _ (hin j hj)).1
    rwa [show (ρ st).off + (i * sz + j) = (ρ st).off + i * sz + j from by omega] at this
  refine ⟨hsome, fun j hj => ?_, ?_⟩
  · have := (hcell _ (hin j hj)).2
    rwa [show (ρ st).off + (i * sz + j) = (ρ st).off + i * sz + j from by omega] at this
  · have hrsz : rowsz rs sz := rowsz_of fun i row hi => (hrows i row hi).1
    refine HeapR.step hr (Nat.le_refl _) (fun _ _ => rfl) (hr.lt _ hm) (Wd.setCells _ _ _ _)
      (fun y hy hyb => setCells_heap_other _ _ _ _ _ fun e => hc0 (hyb e)) (.inr (.inr ⟨_, hm, rfl, hc0, rfl⟩)) ?_
    intro hx
    have hall : rowsz (rs.take i ++ ns ++ rs.drop (i + ns.length)) sz := fun r hr => by
      simp only [List.mem_append] at hr
      rcases hr with (h | h) | h
      · exact hrsz r (List.mem_of_mem_take h)
      · exact hns r h
      · exact hrsz r (List.mem_of_mem_drop h)
    have htl : (rs.take i).length = i := by simp; omega
    have hflat : RowR (envOf (w.setCells (ρ st).blk ((ρ st).off + i * sz) news) O ρ n (Heap.put h b st (.rows sz (rs.take i ++ ns ++ rs.drop (i + ns.length))))) (ρ st).blk ((ρ st).off + i * sz) ns.flatten := by
      intro q c hq
      obtain ⟨x, a1, a2, a3⟩ := hn.get_one hn1 q c hq
      have hlt' : q < news.length := (List.getElem?_eq_some_iff.1 a1).1
      refine ⟨x, ?_, a2, a3.mono hx⟩
      have hput := World.cell?_setCells_in (ρ st).blk news ((ρ st).off + i * sz) w hsome q hlt'
      rw [List.getElem?_eq_getElem hlt'] at a1
      injection a1 with a1
      rw [← a1]
      exact hput
    refine ⟨hsz, by simp; omega, fun _ => ⟨fun j hj => ?_, by rw [setCells_size]; exact hblk⟩, fun i' row hi => ⟨rowsz_get hall i' row hi, ?_⟩⟩
    · rw [setCells_isSome, World.frozen?_setCells]
      exact hcell j hj
    · have old : rs[i']? = some row → (i' < i ∨ i + ns.length ≤ i') → RowR (envOf (w.setCells (ρ st).blk ((ρ st).off + i * sz) news) O ρ n (Heap.put h b st (.rows sz (rs.take i ++ ns ++ rs.drop (i + ns.length))))) (ρ st).blk ((ρ st).off + i' * sz) row := by
        intro hi' hor
        obtain ⟨hl', hR'⟩ := hrows i' row hi'
        intro j' c hj
        obtain ⟨x, hx1, hx2, hx3⟩ := hR' j' c hj
        refine ⟨x, ?_, hx2, hx3.mono hx⟩
        simp only
        rw [World.cell?_setCells_out]
        · exact hx1
        · intro _ _
          have hj' : j' < sz := by have := (List.getElem?_eq_some_iff.1 hj).1; omega
          rcases hor with h2 | h2
          · left
            have : (i' + 1) * sz ≤ i * sz := Nat.mul_le_mul_right _ h2
            rw [Nat.add_mul, Nat.one_mul] at this
            simp only; omega
          · right
            have : (i + ns.length) * sz ≤ i' * sz := Nat.mul_le_mul_right _ h2
            rw [Nat.add_mul] at this
            simp only; omega
      rw [List.append_assoc, List.getElem?_append] at hi
      split at hi
      · rename_i hlt
        rw [htl] at hlt
        rw [List.getElem?_take, if_pos hlt] at hi
        exact old hi (.inl hlt)
      · rename_i hge
        rw [htl] at hge hi
        rw [List.getElem?_append] at hi
        split at hi
        · have := flat_rows hns hflat (i' - i) row hi
          rw [Nat.add_assoc, ← Nat.add_mul, show i + (i' - i) = i' from by omega] at this
          exact this
        · rename_i hge2
          rw [List.getElem?_drop, show i + ns.length + (i' - i - ns.length) = i' from by omega] at hi
          exact old hi (.inr (by omega))

theorem run_copy {t u e : TypeId} {ty : TypeId} {i : TypeInfo} (ht : P.underlying t = some (.slice e)) (hi : P.info? e = some i)
    (base : Option Addr) (dLen dCap m : Nat) (x : Value) (news : List Value) (hlen : ∀ w', (Builtin.lenOf x).run P w' = .ok m w')
    (hnew : ∀ w', (∀ a, w'.cell? a = w.cell? a) → (Builtin.firstCells i.size (Nat.min m dLen) x).run P w' = .ok news.toArray w') {w' : World}
    (hst : ∀ a, base = some a → (storeCells a news).run P w = .ok () w') (hno : base = none → w' = w) :
    (Builtin.copy_ #[t, u] ty #[.slice base dLen dCap, x]).run P w = .ok (goInt (Nat.min m dLen : Nat)) w' := by
  have h2 := hnew w fun _ => rfl
  have h3 := hlen w
  cases base with
  | none => have := hno rfl; subst this; simp [Builtin.copy_, run_underlying ht, sizeOf, typeInfo, hi, h3, h2]
  | some a => have := hst a rfl; simp [Builtin.copy_, run_underlying ht, sizeOf, typeInfo, hi, h3, h2, this]

theorem snd_copy {x y : Operand} {x' y' : Opd} {t u e : TypeId} {ti : TypeInfo} (ho : o.op = .call { callee := .builtin .copy, args := #[x, y], argTypes := #[t, u] })
    (ht : P.underlying t = some (.slice e)) (hi : P.info? e = some ti)
    (hx : compX x = some x') (hy : compX y = some y')
    (hr : HeapR w O ρ s.n s.h) (he : EvR (envOf w O ρ s.n s.h) s η) (hk : stepO P (.copy ti.size x' y') s k) : Done P k w O ρ s.h s.n ((execOp η o).run P w) := by
  have hx := he.ev hx
  have hy := he.ev hy
  simp only [stepO] at hk
  generalize s.ev x' = vx at *
  generalize s.ev y' = vy at *
  have run : ∀ v w', (Builtin.copy_ #[t, u] o.type #[η x, η y]).run P w = .ok v w' → (execOp η o).run P w = .ok (.value v) w' := by
    intro v w' h
    simp [execOp, ho, resolve, invoke, builtin, h]
  unfold copyK at hk
  split at hk
  · exact hk.elim
  · rename_i xs hsrc
    obtain ⟨hxs, hk⟩ := hk
    have len : ∀ (w' : World), (Builtin.lenOf (η y)).run P w' = .ok xs.length w' := by
      obtain ⟨_, _, _, _, n4, _⟩ := src_cells hr hy hsrc hxs
      exact n4 P
    have part : ∀ kk, kk ≤ xs.length → ∃ news : List Value, RL (envOf w O ρ s.n s.h) (xs.take kk).flatten news.toArray ∧ (∀ (q : Nat) u, news[q]? = some u → u.oneCell' = true) ∧
        ∀ (w' : World), (∀ a, w'.cell? a = w.cell? a) → (Builtin.firstCells ti.size kk (η y)).run P w' = .ok news.toArray w' := by
      intro kk hkk
      obtain ⟨y1, v1, b1, b2, b3⟩ := src_take hy hsrc kk hkk
      have hxs' : rowsz (xs.take kk) ti.size := fun r hr => hxs r (List.mem_of_mem_take hr)
      obtain ⟨news, n1, n2, n3, n4, n5⟩ := src_cells hr b1 b2 hxs'
      refine ⟨news, n2, n3, fun w' hw => ?_⟩
      have := n5 P w' hw
      rw [List.length_take, Nat.min_eq_left hkk] at this
      rw [← b3]; exact this
    split at hk
    · have hv := hx.nils_inv
      obtain ⟨news, n2, n3, n5⟩ := part 0 (Nat.zero_le _)
      have hrun := run_copy (w := w) (w' := w) (u := u) (ty := o.type) ht hi none 0 0 xs.length (η y) news len (by simpa using n5) (fun a h => by cases h) (fun _ => rfl)
      rw [run _ _ (by rw [hv]; exact hrun)]
      exact ⟨_, _, _, ρ, hk, hr, by rw [show xs.length.min 0 = 0 from Nat.min_zero _]; exact R.int _ _, Ext.refl _⟩
    · rename_i b st i m
      split at hk
      · rename_i sz' rs hg
        obtain ⟨rfl, hle, hk⟩ := hk
        obtain ⟨news, n2, n3, n5⟩ := part (min xs.length m) (Nat.min_le_left _ _)
        have hns : rowsz (xs.take (min xs.length m)) ti.size := fun r hr => hxs r (List.mem_of_mem_take hr)
        have hnl : (xs.take (min xs.length m)).length = min xs.length m := by simp
        have hres : R (envOf w O ρ s.n s.h) (.int .i64 (min xs.length m : Nat)) (goInt (Nat.min xs.length m : Nat)) := R.int _ _
        have hsz : (ρ st).sz = ti.size := (hr.blk _ (Heap.mem_of_get hg)).1
        by_cases hz : min xs.length m = 0
        · rw [hz] at n2 n5 hk
          have hn0 : news = [] := by
            have := n2.1
            simp at this
            exact List.eq_nil_of_length_eq_zero this.symm
          subst hn0
          have hvv : ∃ a cap, η x = .slice a m cap := by
            generalize η x = vv at hx
            cases hx with
            | sl _ _ _ _ cap hst hn hc => exact ⟨_, _, rfl⟩
            | sl0 _ _ _ a => exact ⟨_, _, rfl⟩
          obtain ⟨a, cap, hv⟩ := hvv
          have hmn : Nat.min xs.length m = 0 := hz
          have hrun := run_copy (w := w) (w' := w) (u := u) (ty := o.type) ht hi a m cap xs.length (η y) [] len (by rw [hmn]; exact n5) (by intro a _; rfl) (fun _ => rfl)
          rw [run _ _ (by rw [hv]; exact hrun)]
          rw [hmn]
          have hrs : rs.take i ++ xs.take 0 ++ rs.drop (i + 0) = rs := by simp
          rw [hrs] at hk
          have hst : st < s.n := hr.lt _ (Heap.mem_of_get hg)
          obtain ⟨a2, a3⟩ := HeapR.step (w' := w) (ρ' := ρ) (n' := s.n) (b := b) (st := st) (x := .rows ti.size rs) hr (Nat.le_refl _) (fun st hst => rfl) hst (Wd.refl _)
            (fun _ _ _ => rfl) (by by_cases hc : (ρ st).cap = 0
                                   · exact .inl hc
                                   · exact .inr (.inr ⟨_, Heap.mem_of_get hg, rfl, hc, rfl⟩)) (fun hx => BlkR.mono hx hst (fun _ => rfl) (hr.blk _ (Heap.mem_of_get hg)))
          exact ⟨_, _, _, ρ, hk, a2, R.int _ _, a3⟩
        · have hm0 : 0 < min xs.length m := Nat.pos_of_ne_zero hz
          obtain ⟨a1, a2, a4, a5⟩ := copy_in (i := i) hr hg (by rw [hnl]; omega) hns n2 n3 (by omega)
          rw [hnl] at a4 a5
          generalize hvx : η x = vv at hx
          cases hx with
          | sl _ _ _ _ cap hst hn hc =>
            have hstore := run_storeCells_cells (P := P) (ρ st).blk ((ρ st).off + i * ti.size) news 0 w (by simpa using a1) (by simpa using a2) (fun u hu => by
              obtain ⟨i, hi, rfl⟩ := List.getElem_of_mem hu
              exact n3 i _ (by simp [hi]))
            have hrun := run_copy (w := w) (w' := w.setCells (ρ st).blk ((ρ st).off + i * ti.size) news) (u := u) (ty := o.type) ht hi (some ⟨(ρ st).blk, (ρ st).off + i * ti.size, none⟩) m cap xs.length (η y) news len n5
              (by intro a ha; injection ha with ha; subst ha; simpa using hstore) (by intro h; cases h)
            rw [run _ _ (by rw [hvx, hsz]; exact hrun)]
            exact ⟨_, _, _, ρ, hk, a4, R.int _ _, a5⟩
          | sl0 _ _ _ a => omega
      · exact hk.elim
    · exact hk.elim

theorem zeroCells_get (z : Array Value) (m : Nat) (q : Nat) : (Builtin.zeroCells z m).toList[q]? = if q < m * z.size then some (z[q % z.size]!) else none := by
  unfold Builtin.zeroCells
  rw [Array.getElem?_toList, Array.getElem?_map]
  by_cases h : q < m * z.size
  · rw [if_pos h, Array.getElem?_range, if_pos h]; rfl
  · rw [if_neg h, Array.getElem?_range, if_neg h]; rfl

theorem snd_clr {x : Operand} {x' : Opd} {t e : TypeId} {ti : TypeInfo} {zv : Value} {zs : List V} (ho : o.op = .call { callee := .builtin .clear, args := #[x], argTypes := #[t] })
    (ht : P.underlying t = some (.slice e)) (hi : P.info? e = some ti) (hz : ti.zero = some zv) (hzs : ∀ E : Env, RL E zs zv.cells) (h1 : ∀ (i : Nat) v, zv.cells[i]? = some v → v.oneCell' = true) (hx : compX x = some x')
    (hr : HeapR w O ρ s.n s.h) (he : EvR (envOf w O ρ s.n s.h) s η) (hk : stepO P (.clr zs x') s k) : Done P k w O ρ s.h s.n ((execOp η o).run P w) := by
  have hx := he.ev hx
  simp only [stepO] at hk
  generalize s.ev x' = vx at *
  have run : ∀ v w', (Builtin.clear_ #[t] o.type #[η x]).run P w = .ok v w' → (execOp η o).run P w = .ok (.value v) w' := by
    intro v w' h
    simp [execOp, ho, resolve, invoke, builtin, h]
  have nothing : ∀ a cap, η x = .slice a 0 cap → (execOp η o).run P w = .ok (.value (.tuple #[])) w := by
    intro a cap hv
    refine run _ _ ?_
    rw [hv]
    cases a <;> simp [Builtin.clear_, run_underlying ht]
  unfold clrK at hk
  split at hk
  · rw [nothing none 0 hx.nils_inv]
    exact Done.val hr hk (.tup _ _ rfl (by simp))
  · rename_i b st i m
    split at hk
    · rename_i sz rs hg
      obtain ⟨hsz0, hle, hk⟩ := hk
      have hsz : (ρ st).sz = sz := (hr.blk _ (Heap.mem_of_get hg)).1
      generalize hvx : η x = vv at hx
      by_cases hm : m = 0
      · subst hm
        have hvv : ∃ a cap, η x = .slice a 0 cap := by
          rw [hvx]
          cases hx with
          | sl _ _ _ _ cap hst hn hc => exact ⟨_, _, rfl⟩
          | sl0 _ _ _ a => exact ⟨_, _, rfl⟩
        obtain ⟨a, cap, hv⟩ := hvv
        rw [nothing a cap hv]
        have hrs : rs.take i ++ List.replicate 0 zs ++ rs.drop (i + 0) = rs := by simp
        rw [hrs] at hk
        have hst : st < s.n := hr.lt _ (Heap.mem_of_get hg)
        obtain ⟨a2, a3⟩ := HeapR.step (w' := w) (ρ' := ρ) (n' := s.n) (b := b) (st := st) (x := .rows sz rs) hr (Nat.le_refl _) (fun st hst => rfl) hst (Wd.refl _)
          (fun _ _ _ => rfl) (by by_cases hc : (ρ st).cap = 0
                                 · exact .inl hc
                                 · exact .inr (.inr ⟨_, Heap.mem_of_get hg, rfl, hc, rfl⟩)) (fun hx => BlkR.mono hx hst (fun _ => rfl) (hr.blk _ (Heap.mem_of_get hg)))
        exact ⟨_, _, _, ρ, hk, a2, .tup _ _ rfl (by simp), a3⟩
      · have hzl : zs.length = zv.cells.size := (hzs (env0 w O)).1
        have hns : rowsz (List.replicate m zs) sz := fun r hr => by rw [(List.mem_replicate.1 hr).2, hsz0]
        have hget : ∀ q, q < m * sz → ∃ j, j < sz ∧ q % zv.cells.size = j ∧ (List.replicate m zs).flatten[q]? = zs[j]? := by
          intro q hq
          have hpos : 0 < sz := Nat.pos_of_ne_zero fun h => by rw [h] at hq; omega
          refine ⟨q % sz, Nat.mod_lt _ hpos, by rw [← hzl, hsz0], ?_⟩
          have e := Nat.div_add_mod q sz
          rw [Nat.mul_comm] at e
          conv => lhs; rw [← e]
          rw [flat_get hns _ _ (Nat.mod_lt _ hpos)]
          have : q / sz < m := by rw [Nat.div_lt_iff_lt_mul hpos]; exact hq
          simp [this]
        have hn : RL (envOf w O ρ s.n s.h) (List.replicate m zs).flatten (Builtin.zeroCells zv.cells m).toList.toArray := by
          have hl : (List.replicate m zs).flatten.length = m * sz := by rw [flat_length hns]; simp
          refine ⟨by rw [hl]; simp [Builtin.zeroCells, ← hzl, hsz0], fun q c v hc hv => ?_⟩
          have hq : q < m * sz := by rw [← hl]; exact (List.getElem?_eq_some_iff.1 hc).1
          obtain ⟨j, hj, hqj, hfl⟩ := hget q hq
          rw [hfl] at hc
          have hv' : (Builtin.zeroCells zv.cells m).toList[q]? = some v := by simpa using hv
          rw [zeroCells_get, if_pos (by rw [← hzl, ← hsz0]; exact hq), hqj] at hv'
          injection hv' with hv'
          have hjl : j < zv.cells.size := by rw [← hzl, ← hsz0]; exact hj
          have hzj : zv.cells[j]? = some v := by rw [← hv']; simp [hjl]
          exact (hzs _).2 j c v hc hzj
        have hn1 : ∀ (q : Nat) u, (Builtin.zeroCells zv.cells m).toList[q]? = some u → u.oneCell' = true := by
          intro q u hu
          rw [zeroCells_get] at hu
          split at hu
          · rename_i hq
            injection hu with hu
            have hpos : 0 < zv.cells.size := Nat.pos_of_ne_zero fun h => by rw [h] at hq; omega
            have hjl := Nat.mod_lt q hpos
            exact h1 (q % zv.cells.size) u (by rw [← hu]; simp [hjl])
          · cases hu
        have hrl : (List.replicate m zs).length = m := by simp
        obtain ⟨a1, a2, a4, a5⟩ := copy_in (i := i) hr hg (by rw [hrl]; exact hle) hns hn hn1 (by rw [hrl]; omega)
        rw [hrl] at a4 a5
        cases hx with
        | sl _ _ _ _ cap hst hn' hc =>
          have hstore := run_storeCells_cells (P := P) (ρ st).blk ((ρ st).off + i * sz) (Builtin.zeroCells zv.cells m).toList 0 w (by simpa using a1) (by simpa using a2) (fun u hu => by
            obtain ⟨q, hq, rfl⟩ := List.getElem_of_mem hu
            exact hn1 q _ (List.getElem?_eq_getElem hq))
          have hrun : (Builtin.clear_ #[t] o.type #[η x]).run P w = .ok (.tuple #[]) (w.setCells (ρ st).blk ((ρ st).off + i * sz) (Builtin.zeroCells zv.cells m).toList) := by
            rw [hvx, hsz]
            cases m with
            | zero => exact (hm rfl).elim
            | succ m => simp [Builtin.clear_, run_underlying ht, zeroValue, typeInfo, hi, hz, hstore]
          rw [run _ _ hrun]
          exact ⟨_, _, _, ρ, hk, a4, .tup _ _ rfl (by simp), a5⟩
        | sl0 _ _ _ a => omega
    · exact hk.elim
  · exact hk.elim

theorem snd_slz {x : Operand} {lo : Option Operand} {x' : Opd} {t e : TypeId} {ti : TypeInfo} {nm : Nat} {j j' : IntKind} (ho : o.op = .slice t x lo (some (.const (.int j 0))) (some (.const (.int j' 0)))) (hlo : lo = none) (ht : P.underlying t = some (.slice e)) (hi0 : P.info? e = some ti)
    (hx : compX x = some x')
    (hr : HeapR w O ρ s.n s.h) (he : EvR (envOf w O ρ s.n s.h) s η) (hk : stepO P (.slz nm ti.size x') s k) : Done P k w O ρ s.h s.n ((execOp η o).run P w) := by
  have hx := he.ev hx
  simp only [stepO] at hk
  generalize s.ev x' = vx at *
  have key : ∀ a len cap, η x = .slice a len cap → k (.sl nm s.n 0 0) (Heap.put s.h nm s.n (.rows ti.size [])) (s.n + 1) → Done P k w O ρ s.h s.n ((execOp η o).run P w) := by
    intro a len cap hv hk2
    have hrun : (execOp η o).run P w = .ok (.value (.slice a 0 0)) w := by
      subst hlo
      simp [execOp, ho, Instr.sliceAt, run_underlying ht, Instr.slice, hv, Instr.sliceBounds, Instr.sliceBound, asIntOf, he.2.1, sizeOf, typeInfo, hi0]
    rw [hrun]
    let ρ' : Nat → Loc := fun st => if st = s.n then ⟨0, 0, ti.size, 0⟩ else ρ st
    have hn : ρ' s.n = ⟨0, 0, ti.size, 0⟩ := by simp [ρ']
    obtain ⟨a2, a3⟩ := HeapR.step (w' := w) (ρ' := ρ') (n' := s.n + 1) (b := nm) (st := s.n) (x := .rows ti.size []) hr (Nat.le_succ _) (fun st hst => by simp [ρ', Nat.ne_of_lt hst]) (Nat.lt_succ_self _) (Wd.refl _)
      (fun _ _ _ => rfl) (.inl (by rw [hn])) (fun _ => ⟨by simp [hn], by simp, fun h => by simp [hn] at h, by simp⟩)
    exact ⟨_, _, _, ρ', hk2, a2, .sl0 _ _ _ _, a3⟩
  generalize hvx : η x = vv at hx
  unfold slzK at hk
  split at hk
  · exact key none 0 0 (by rw [hvx, hx.nils_inv]) hk
  · rename_i es
    cases hx with
    | isl _ p cap sz f hp hcap hrow hcell hR => exact key _ _ _ hvx hk
    | isl0 a cap => exact key _ _ _ hvx hk
  · rename_i b st i m
    obtain ⟨p, c, hp⟩ := hx.sl_inv
    exact key _ _ _ (hvx.trans hp) hk
  · exact hk.elim

end
end Go.Abs
