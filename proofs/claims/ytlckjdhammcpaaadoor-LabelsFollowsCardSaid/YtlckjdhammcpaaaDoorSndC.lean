/-
  The abstract meaning of lengths, least and greatest, indexes of strings, fields of values, struct values and their equality is the model's. No condition.
-/
import Derived.Test.YtlckjdhammcpaaaDoorSndB
set_option linter.unusedVariables false
set_option linter.unusedSimpArgs false
namespace Go.Abs
section
variable {P : Program} {k : Res} {w : World} {O : Nat → Prop} {ρ : Nat → Loc} {s : St} {η : Operand → Value} {o : Oper}

theorem mp_blk {b st : Nat} {es : List (V × V)} {h : Heap} {n : Nat} (hr : HeapR w O ρ n h) (hg : Heap.get h b st = some (.map es)) :
    ∃ (mes : Array MapEntry) (clock : Nat), w.heap[(ρ st).blk]? = some (.map mes clock) ∧ mes.size = es.length ∧
      (∀ (i : Nat) p m, es[i]? = some p → mes[i]? = some m → R (envOf w O ρ n h) p.1 m.key ∧ R (envOf w O ρ n h) p.2 m.val ∧ m.born < clock) ∧
      (∀ (i j : Nat) m m', mes[i]? = some m → mes[j]? = some m' → m.born = m'.born → i = j) := (hr.blk _ (Heap.mem_of_get hg)).2

theorem R.sl_inv {E : Env} {b st i m : Nat} {v : Value} (h : R E (.sl b st i m) v) : ∃ p c, v = .slice p m c := by
  cases h with
  | sl _ _ _ _ cap => exact ⟨_, _, rfl⟩
  | sl0 _ _ _ a => exact ⟨_, _, rfl⟩
theorem R.isl_inv {E : Env} {es : List (List V)} {v : Value} (h : R E (.isl es) v) : ∃ p c, v = .slice p es.length c := by
  cases h with
  | isl => exact ⟨_, _, rfl⟩
  | isl0 a cap => exact ⟨_, _, rfl⟩

theorem snd_len {x : Operand} {x' : Opd} {t : TypeId} {kind : Nat} {d : TypeDesc} (ho : o.op = .call { callee := .builtin .len, args := #[x], argTypes := #[t] }) (hd : P.underlying t = some d)
    (hp : (kind = 0 ∧ ∃ e, d = .slice e) ∨ (kind = 1 ∧ d = .string) ∨ (kind = 2 ∧ ∃ e u, d = .map e u)) (hx : compX x = some x')
    (hr : HeapR w O ρ s.n s.h) (he : EvR (envOf w O ρ s.n s.h) s η) (hk : stepO P (.len kind x') s k) : Done P k w O ρ s.h s.n ((execOp η o).run P w) := by
  obtain ⟨r, h1, h2⟩ := optR_some hk
  have hx := he.ev hx
  generalize s.ev x' = vx at *
  have fin : ∀ z : Int, (Builtin.len_ #[t] o.type #[η x]).run P w = .ok (goInt z) w → r = .int .i64 z → Done P k w O ρ s.h s.n ((execOp η o).run P w) := by
    intro z h e
    have : (execOp η o).run P w = .ok (.value (.int .i64 z)) w := by simp [execOp, ho, resolve, invoke, builtin, h, goInt]
    rw [this]
    subst e
    exact Done.val hr h2 (.int _ _)
  unfold lenV at h1
  rcases hp with ⟨rfl, e, rfl⟩ | ⟨rfl, rfl⟩ | ⟨rfl, e, u, rfl⟩
  · split at h1 <;> first | (cases h1; done) | (simp_all; done) | skip
    · injection h1 with h1
      obtain ⟨p, c, hv⟩ := hx.sl_inv
      exact fin _ (by rw [hv]; simp [Builtin.len_, run_underlying hd]) h1.symm
    · injection h1 with h1
      obtain ⟨p, c, hv⟩ := hx.isl_inv
      exact fin _ (by rw [hv]; simp [Builtin.len_, run_underlying hd]) h1.symm
    · injection h1 with h1
      exact fin 0 (by rw [hx.nils_inv]; simp [Builtin.len_, run_underlying hd]) h1.symm
  · split at h1 <;> first | (cases h1; done) | (simp_all; done) | skip
    · injection h1 with h1
      exact fin _ (by rw [hx.str_inv]; simp [Builtin.len_, run_underlying hd]; rfl) h1.symm
  · split at h1 <;> first | (cases h1; done) | (simp_all; done) | skip
    · injection h1 with h1
      exact fin 0 (by rw [hx.nilm_inv]; simp [Builtin.len_, run_underlying hd]) h1.symm
    · rename_i b st _
      unfold mapLen at h1
      split at h1
      · rename_i es hg
        injection h1 with h1
        obtain ⟨mes, clock, hm, hl, _⟩ := mp_blk hr hg
        have hv : η x = .map (some (ρ st).blk) := hx.mp_inv.2
        refine fin es.length ?_ h1.symm
        rw [hv, ← hl]
        simp [Builtin.len_, run_underlying hd, getObj, Sem.run, hm]
      · cases h1

theorem snd_lenc {x : Operand} {t e : TypeId} {m : Nat} (ho : o.op = .call { callee := .builtin .len, args := #[x], argTypes := #[t] }) (hd : P.underlying t = some (.array m e))
    (hr : HeapR w O ρ s.n s.h) (hk : stepO P (.lenc m) s k) : Done P k w O ρ s.h s.n ((execOp η o).run P w) := by
  have : (execOp η o).run P w = .ok (.value (.int .i64 m)) w := by simp [execOp, ho, resolve, invoke, builtin, Builtin.len_, run_underlying hd, goInt]
  rw [this]
  exact Done.val hr hk (.int _ _)

theorem snd_mm {x y : Operand} {x' y' : Opd} {mx : Bool} {ts : Array TypeId} (ho : o.op = .call { callee := .builtin (if mx then .max else .min), args := #[x, y], argTypes := ts }) (hx : compX x = some x') (hy : compX y = some y')
    (hr : HeapR w O ρ s.n s.h) (he : EvR (envOf w O ρ s.n s.h) s η) (hk : stepO P (.mm mx [x', y']) s k) : Done P k w O ρ s.h s.n ((execOp η o).run P w) := by
  obtain ⟨r, h1, h2⟩ := optR_some hk
  have hx := he.ev hx
  have hy := he.ev hy
  simp only [List.map_cons, List.map_nil] at h1
  generalize s.ev x' = vx at *
  generalize s.ev y' = vy at *
  unfold mmV at h1
  split at h1
  · rename_i j a j' b heq
    injection heq with e1 e2
    injection e2 with e2 _
    subst e1; subst e2
    by_cases hj : j = j'
    · subst hj
      simp at h1
      subst h1
      have : (execOp η o).run P w = .ok (.value (.int j (mm2 mx a b))) w := by
        rw [show (execOp η o).run P w = (do let r ← (if mx then Builtin.max_ ts o.type #[η x, η y] else Builtin.min_ ts o.type #[η x, η y]); pure (Next.value r) : Sem Next).run P w from by
          cases mx <;> simp [execOp, ho, resolve, invoke, builtin]]
        rw [hx.int_inv, hy.int_inv]
        cases mx <;> simp [Builtin.max_, Builtin.min_, Builtin.max2, Builtin.min2, mm2]
      rw [this]
      exact Done.val hr h2 (.int _ _)
    · simp [hj] at h1
  · cases h1

theorem snd_idx {x i : Operand} {x' i' : Opd} {t : TypeId} (ho : o.op = .index t x i) (hd : P.underlying t = some .string) (hx : compX x = some x') (hi : compX i = some i')
    (hr : HeapR w O ρ s.n s.h) (he : EvR (envOf w O ρ s.n s.h) s η) (hk : stepO P (.idx x' i') s k) : Done P k w O ρ s.h s.n ((execOp η o).run P w) := by
  have hx := he.ev hx
  have hi := he.ev hi
  simp only [stepO] at hk
  generalize s.ev x' = vx at *
  generalize s.ev i' = vi at *
  unfold idxK at hk
  split at hk
  · rename_i b j z
    obtain ⟨h0, h1⟩ := hk
    obtain ⟨r, h1, h2⟩ := optR_some h1
    rw [Option.map_eq_some_iff] at h1
    obtain ⟨c, hc, rfl⟩ := h1
    have hlt : z.toNat < (⟨⟨b⟩⟩ : ByteArray).size := (List.getElem?_eq_some_iff.1 hc).1
    have hg : (⟨⟨b⟩⟩ : ByteArray)[z.toNat]? = some c := by
      rw [ByteArray.getElem?_lt' _ _ hlt]
      have := (List.getElem?_eq_some_iff.1 hc).2
      exact congrArg some this
    have : (execOp η o).run P w = .ok (.value (.int .u8 c.toNat)) w := by
      simp [execOp, ho, Instr.index, run_underlying hd, hx.str_inv, hi.int_inv, asIntOf, h0, hg]
    rw [this]
    exact Done.val hr h2 (.int _ _)
  · exact hk.elim

theorem run_isAgg {t : TypeId} {a : Bool} {n : Nat} (h : tyOf P t = some (n, a)) (w : World) : (isAgg t).run P w = .ok a w := by
  unfold tyOf at h
  cases hi : P.info? t with
  | none => simp [hi] at h
  | some i =>
    cases hu : P.underlying t with
    | none => simp [hi, hu] at h
    | some d =>
      cases d <;> simp [hi, hu] at h <;> (obtain ⟨_, rfl⟩ := h; simp [isAgg, run_underlying hu])
theorem tyOf_info {t : TypeId} {a : Bool} {n : Nat} (h : tyOf P t = some (n, a)) : ∃ i, P.info? t = some i ∧ i.size = n := by
  unfold tyOf at h
  cases hi : P.info? t with
  | none => simp [hi] at h
  | some i =>
    cases hu : P.underlying t with
    | none => simp [hi, hu] at h
    | some d => cases d <;> simp [hi, hu] at h <;> exact ⟨i, rfl, h.1⟩
theorem run_size {t : TypeId} {a : Bool} {n : Nat} (h : tyOf P t = some (n, a)) (w : World) : (sizeOf t).run P w = .ok n w := by
  obtain ⟨i, hi, hn⟩ := tyOf_info h
  simp [sizeOf, typeInfo, hi, hn]

/-- A part of a row of cells. -/
theorem loadRow_R {E : Env} {row : List V} {vs : Array Value} {j n : Nat} {agg : Bool} {r : V} {t : TypeId} (hR : RL E row vs) (h1 : ∀ (i : Nat) v, vs[i]? = some v → v.oneCell' = true)
    (ht : tyOf P t = some (n, agg)) (h : loadRow row j n agg = some r) : ∃ v, (part t vs j).run P w = .ok v w ∧ R E r v := by
  cases agg with
  | true =>
    simp only [loadRow, cond_true] at h
    cases hb : Nat.ble (j + n) row.length with
    | false => rw [hb] at h; cases h
    | true =>
      rw [hb, cond_true] at h
      injection h with h
      subst h
      have hle := Nat.le_of_ble_eq_true hb
      have hl := hR.1
      refine ⟨.agg (vs.extract j (j + n)), by simp [part, run_isAgg ht, run_size ht], .agg _ _ ?_ ?_ ?_⟩
      · simp; omega
      · intro i v hi
        rw [Array.getElem?_extract] at hi
        split at hi
        · exact h1 _ _ hi
        · cases hi
      · intro i c v hi hv
        rw [Array.getElem?_extract] at hv
        split at hv
        · rw [List.getElem?_take, List.getElem?_drop] at hi
          split at hi
          · exact hR.2 (j + i) c v hi hv
          · cases hi
        · cases hv
  | false =>
    simp only [loadRow, cond_false] at h
    have hlt : j < vs.size := by have := (List.getElem?_eq_some_iff.1 h).1; have := hR.1; omega
    exact ⟨vs[j], by simp [part, run_isAgg ht, hlt], hR.2 j r _ h (by simp [hlt])⟩

theorem snd_fld {x : Operand} {x' : Opd} {t : TypeId} {i n : Nat} {agg : Bool} {fs : Array Field} {f : Field} (ho : o.op = .field t x i) (ht : P.underlying t = some (.struct fs)) (hf : fs[i]? = some f)
    (hty : tyOf P f.type = some (n, agg)) (hx : compX x = some x')
    (hr : HeapR w O ρ s.n s.h) (he : EvR (envOf w O ρ s.n s.h) s η) (hk : stepO P (.fld f.offset n agg x') s k) : Done P k w O ρ s.h s.n ((execOp η o).run P w) := by
  obtain ⟨r, h1, h2⟩ := optR_some hk
  have hx := he.ev hx
  generalize s.ev x' = vx at *
  unfold fldV at h1
  split at h1
  · obtain ⟨vs, hv, hl, hone, hR⟩ := hx.agg_inv
    obtain ⟨v, hp, hRv⟩ := loadRow_R (P := P) (w := w) ⟨hl, hR⟩ hone hty h1
    have : (execOp η o).run P w = .ok (.value v) w := by simp [execOp, ho, Instr.field, run_underlying ht, hf, asAgg, hv, hp]
    rw [this]
    exact Done.val hr h2 hRv
  · cases h1

theorem snd_idxA {x i : Operand} {x' i' : Opd} {t e : TypeId} {len n : Nat} {agg : Bool} {ti : TypeInfo} (ho : o.op = .index t x i) (ht : P.underlying t = some (.array len e)) (hti : P.info? e = some ti)
    (hty : tyOf P e = some (n, agg)) (hx : compX x = some x') (hi : compX i = some i')
    (hr : HeapR w O ρ s.n s.h) (he : EvR (envOf w O ρ s.n s.h) s η) (hk : stepO P (.idxA len ti.size n agg x' i') s k) : Done P k w O ρ s.h s.n ((execOp η o).run P w) := by
  have hx := he.ev hx
  have hi := he.ev hi
  simp only [stepO] at hk
  generalize s.ev x' = vx at *
  generalize s.ev i' = vi at *
  unfold idxAK at hk
  split at hk
  · rename_i cs j z
    obtain ⟨h0, h1, hk⟩ := hk
    obtain ⟨r, h2, h3⟩ := optR_some hk
    obtain ⟨vs, hv, hl, hone, hR⟩ := hx.agg_inv
    obtain ⟨v, hp, hRv⟩ := loadRow_R (P := P) (w := w) ⟨hl, hR⟩ hone hty h2
    have : (execOp η o).run P w = .ok (.value v) w := by
      simp [execOp, ho, Instr.index, run_underlying ht, hv, hi.int_inv, asIntOf, h0, h1, sizeOf, typeInfo, hti, hp]
    rw [this]
    exact Done.val hr h3 hRv
  · exact hk.elim

/-! Equality of struct values. -/

theorem eqLeaf_run {E : Env} {t : TypeId} {kd : Nat} {x y : V} {a b : Value} {c : Bool} {d : Nat} (hs : shapeOf P (d + 1) t = some (.leaf kd)) (hx : R E x a) (hy : R E y b) (h : eqLeaf kd x y = some c) :
    ∀ m, (Op.equalIn (m + 1) t a b).run P w = .ok c w := by
  intro m
  have hu : (kd = 0 ∧ P.underlying t = some .bool) ∨ (kd = 1 ∧ ∃ j, P.underlying t = some (.int j)) ∨ (kd = 2 ∧ P.underlying t = some .string) := by
    simp only [shapeOf] at hs
    split at hs <;> simp_all
  unfold eqLeaf at h
  rcases hu with ⟨rfl, hu⟩ | ⟨rfl, j, hu⟩ | ⟨rfl, hu⟩
  · split at h <;> first | (cases h; done) | (simp_all; done) | skip
    injection h with h
    rw [hx.bool_inv, hy.bool_inv, run_equalIn_bool' _ _ _ _ _ hu, ← h, bool_eq_dec]
  · split at h <;> first | (cases h; done) | (simp_all; done) | skip
    rename_i j1 a1 j2 b1 _
    by_cases hj : j1 = j2
    · subst hj
      simp at h
      rw [hx.int_inv, hy.int_inv, run_equalIn_int _ _ _ _ _ _ _ hu, ← h, dec_eq]
    · simp [hj] at h
  · split at h <;> first | (cases h; done) | (simp_all; done) | skip
    injection h with h
    rw [hx.str_inv, hy.str_inv, run_equalIn_string _ _ _ _ _ hu, ← h, str_eq_dec]

theorem RL.part {E : Env} {xs : List V} {vs : Array Value} (h : RL E xs vs) (off n : Nat) : RL E ((xs.drop off).take n) (vs.extract off (off + n)) := by
  obtain ⟨hl, hR⟩ := h
  refine ⟨by simp; omega, fun i c v hi hv => ?_⟩
  rw [Array.getElem?_extract] at hv
  split at hv
  · rw [List.getElem?_take, List.getElem?_drop] at hi
    split at hi
    · exact hR (off + i) c v hi hv
    · cases hi
  · cases hv

theorem andO_some {a b : Option Bool} {c : Bool} (h : andO a b = some c) : ∃ x y, a = some x ∧ b = some y ∧ c = (x && y) := by
  unfold andO at h
  split at h
  · injection h with h; exact ⟨_, _, rfl, rfl, h.symm⟩
  · cases h

theorem eqE_run {E : Env} : ∀ (d : Nat) (t : TypeId) (e : ETy) (i : TypeInfo) (xs ys : List V) (vs us : Array Value) (off : Nat) (c : Bool), shapeOf P d t = some e → P.info? t = some i →
    RL E xs vs → RL E ys us → eqE e ((xs.drop off).take i.size) ((ys.drop off).take i.size) = some c → ∀ m (w : World), ∃ a b, (part t vs off).run P w = .ok a w ∧ (part t us off).run P w = .ok b w ∧ (Op.equalIn (m + d) t a b).run P w = .ok c w
  | 0, _, _, _, _, _, _, _, _, _, h, _, _, _, _, _, _ => by simp [shapeOf] at h
  | d + 1, t, e, i, xs, ys, vs, us, off, c, hsh, hi, hx, hy, he, m, w => by
    have leaf : ∀ kd desc, e = .leaf kd → P.underlying t = some desc → (∀ fs, desc ≠ .struct fs) → (∀ n e, desc ≠ .array n e) → ∃ a b, (part t vs off).run P w = .ok a w ∧ (part t us off).run P w = .ok b w ∧ (Op.equalIn (m + (d + 1)) t a b).run P w = .ok c w := by
      intro kd desc hk hu h1 h2
      subst hk
      have hag : (isAgg t).run P w = .ok false w := by
        simp only [isAgg, Sem.run_bind, run_underlying hu, Result.andThen_ok]
        cases desc <;> first | rfl | exact (h1 _ rfl).elim | exact (h2 _ _ rfl).elim
      unfold eqE at he
      split at he <;> first | (cases he; done) | (simp_all; done) | skip
      rename_i kd' x y hkd e1 e2
      injection hkd with hkd
      subst hkd
      have gx : xs[off]? = some x := by
        have := congrArg (fun l => l[0]?) e1
        simp only [List.getElem?_take, List.getElem?_drop, List.getElem?_cons_zero, Nat.add_zero] at this
        split at this
        · exact this
        · cases this
      have gy : ys[off]? = some y := by
        have := congrArg (fun l => l[0]?) e2
        simp only [List.getElem?_take, List.getElem?_drop, List.getElem?_cons_zero, Nat.add_zero] at this
        split at this
        · exact this
        · cases this
      have lx : off < vs.size := by have := (List.getElem?_eq_some_iff.1 gx).1; have := hx.1; omega
      have ly : off < us.size := by have := (List.getElem?_eq_some_iff.1 gy).1; have := hy.1; omega
      refine ⟨vs[off], us[off], by simp [part, hag, lx], by simp [part, hag, ly], ?_⟩
      exact eqLeaf_run hsh (hx.2 off x _ gx (by simp [lx])) (hy.2 off y _ gy (by simp [ly])) he (m + d)
    have hsh0 := hsh
    simp only [shapeOf] at hsh
    split at hsh
    · rename_i hu; injection hsh with hsh; exact leaf _ _ hsh.symm hu (by simp) (by simp)
    · rename_i hu; injection hsh with hsh; exact leaf _ _ hsh.symm hu (by simp) (by simp)
    · rename_i hu; injection hsh with hsh; exact leaf _ _ hsh.symm hu (by simp) (by simp)
    · rename_i fs hu
      split at hsh
      · cases hsh
      · rename_i hst
        rw [Option.map_eq_some_iff] at hsh
        obtain ⟨es, hes, rfl⟩ := hsh
        have hag : (isAgg t).run P w = .ok true w := by simp [isAgg, run_underlying hu]
        have hsz : (sizeOf t).run P w = .ok i.size w := by simp [sizeOf, typeInfo, hi]
        refine ⟨.agg (vs.extract off (off + i.size)), .agg (us.extract off (off + i.size)), by simp [part, hag, hsz], by simp [part, hag, hsz], ?_⟩
        have hfo : P.fieldsOf t = fs := by simp [Program.fieldsOf, hu]
        rw [show m + (d + 1) = (m + d) + 1 from rfl, run_equalIn_struct w (m + d) t _ _ (by rw [hfo]; exact hu) (by simpa using hst), hfo]
        have hx' := hx.part off i.size
        have hy' := hy.part off i.size
        simp only [eqE] at he
        generalize (xs.drop off).take i.size = xs' at he hx'
        generalize (ys.drop off).take i.size = ys' at he hy'
        generalize vs.extract off (off + i.size) = vs' at hx'
        generalize us.extract off (off + i.size) = us' at hy'
        clear hu hfo hag hsz leaf hsh0
        generalize fs.toList = l at hes
        induction l generalizing es c with
        | nil =>
          simp [shapeOf.shapeFs] at hes; subst hes
          simp [eqE.eqFs] at he; subst he
          rfl
        | cons f r ih =>
          simp only [shapeOf.shapeFs] at hes
          split at hes
          · cases hes
          · rename_i hname
            split at hes
            · rename_i i' e' es' h1 h2 h3
              injection hes with hes
              subst hes
              simp only [eqE.eqFs] at he
              obtain ⟨x, y, hx1, hy1, rfl⟩ := andO_some he
              obtain ⟨a, b, ha, hb, hab⟩ := eqE_run d f.type e' i' xs' ys' vs' us' f.offset x h2 h1 hx' hy' hx1 m w
              simp only [Op.eqFields, if_pos hname, Sem.run_bind, ha, hb, hab, Result.andThen_ok, ne_eq]
              cases x with
              | true => simpa using ih y es' hy1 h3
              | false => simp
            · cases hes
    · cases hsh

theorem shape_struct {d : Nat} {t : TypeId} {e : ETy} {fs : Array Field} (h : shapeOf P (d + 1) t = some e) (hu : P.underlying t = some (.struct fs)) :
    ∃ es, e = .agg es ∧ P.stoodInHeld t = false ∧ shapeOf.shapeFs P (shapeOf P d) fs.toList = some es := by
  simp only [shapeOf, hu] at h
  split at h
  · cases h
  · rename_i hst
    rw [Option.map_eq_some_iff] at h
    obtain ⟨es, hes, rfl⟩ := h
    exact ⟨es, rfl, by simpa using hst, hes⟩

theorem snd_eqa {x y : Operand} {x' y' : Opd} {t t' : TypeId} {neg : Bool} {e : ETy} {fs : Array Field} (ho : o.op = .binOp (if neg then .neq else .eql) t x y t') (hu : P.underlying t = some (.struct fs))
    (hsh : shapeOf P 8 t = some e) (hg : P.eqGuardType P.depth t = false)
    (hx : compX x = some x') (hy : compX y = some y')
    (hr : HeapR w O ρ s.n s.h) (he : EvR (envOf w O ρ s.n s.h) s η) (hk : stepO P (.eqa neg e x' y') s k) : Done P k w O ρ s.h s.n ((execOp η o).run P w) := by
  have hx := he.ev hx
  have hy := he.ev hy
  obtain ⟨r, h1, h2⟩ := optR_some hk
  generalize s.ev x' = vx at *
  generalize s.ev y' = vy at *
  unfold eqaV at h1
  split at h1
  · rename_i xs ys
    rw [Option.map_eq_some_iff] at h1
    obtain ⟨c, hc, rfl⟩ := h1
    obtain ⟨vs, hv, hl, _, hR⟩ := hx.agg_inv
    obtain ⟨us, hv', hl', _, hR'⟩ := hy.agg_inv
    have heq : (Op.equal t (.agg vs) (.agg us)).run P w = .ok c w := by
      show (Op.equalIn (9992 + 8) t (.agg vs) (.agg us)).run P w = .ok c w
      · obtain ⟨es, rfl, hst, hes⟩ := shape_struct hsh hu
        have hfo : P.fieldsOf t = fs := by simp [Program.fieldsOf, hu]
        rw [show 9992 + 8 = (9992 + 7) + 1 from rfl, run_equalIn_struct w (9992 + 7) t _ _ (by rw [hfo]; exact hu) (by simpa using hst), hfo]
        simp only [eqE] at hc
        clear hsh hfo hu hg h2 hk
        generalize fs.toList = l at hes
        induction l generalizing es c with
        | nil =>
          simp [shapeOf.shapeFs] at hes; subst hes
          simp [eqE.eqFs] at hc; subst hc
          rfl
        | cons f r ih =>
          simp only [shapeOf.shapeFs] at hes
          split at hes
          · cases hes
          · rename_i hname
            split at hes
            · rename_i i' e' es' h1 h2' h3
              injection hes with hes
              subst hes
              simp only [eqE.eqFs] at hc
              obtain ⟨x, y, hx1, hy1, rfl⟩ := andO_some hc
              obtain ⟨a, b, ha, hb, hab⟩ := eqE_run 7 f.type e' i' xs ys vs us f.offset x h2' h1 ⟨hl, hR⟩ ⟨hl', hR'⟩ hx1 9992 w
              simp only [Op.eqFields, if_pos hname, Sem.run_bind, ha, hb, hab, Result.andThen_ok, ne_eq]
              cases x with
              | true => simpa using ih y es' hy1 h3
              | false => simp
            · cases hes
    have hgd : (eqGuard (if neg then .neq else .eql) t x y (.agg vs) (.agg us)).run P w = .ok () w := by
      cases neg <;> simp [eqGuard, hg]
    have : (execOp η o).run P w = .ok (.value (.bool (bif neg then !c else c))) w := by
      simp only [execOp, ho, hv, hv', Sem.run_bind, hgd, Result.andThen_ok]
      cases neg <;> simp [binOp, heq]
    rw [this]
    exact Done.val hr h2 (.bool _)
  · cases h1

end
end Go.Abs
