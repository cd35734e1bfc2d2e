/-
  The abstract meaning of the operations that touch no memory is the model's, continued. No condition.
-/
import Derived.Test.YtlckjdhammcpaaaDoorSndA
set_option linter.unusedVariables false
set_option linter.unusedSimpArgs false
namespace Go.Abs
section
variable {P : Program} {k : Res} {w : World} {O : Nat → Prop} {ρ : Nat → Loc} {s : St} {η : Operand → Value} {o : Oper}

theorem snd_move {x : Operand} {x' : Opd} (ho : o.op = .move x ∨ o.op = .assign x) (hx : compX x = some x')
    (hr : HeapR w O ρ s.n s.h) (he : EvR (envOf w O ρ s.n s.h) s η) (hk : stepO P (.mov x') s k) : Done P k w O ρ s.h s.n ((execOp η o).run P w) := by
  have h : (execOp η o).run P w = .ok (.value (η x)) w := by rcases ho with ho | ho <;> simp [execOp, ho]
  rw [h]
  exact Done.val hr hk (he.ev hx)

theorem snd_pick {c a b : Operand} {c' a' b' : Opd} (ho : o.op = .pick c a b) (hc : compX c = some c') (ha : compX a = some a') (hb : compX b = some b')
    (hr : HeapR w O ρ s.n s.h) (he : EvR (envOf w O ρ s.n s.h) s η) (hk : stepO P (.pick c' a' b') s k) : Done P k w O ρ s.h s.n ((execOp η o).run P w) := by
  obtain ⟨r, h1, h2⟩ := optR_some hk
  have hc := he.ev hc
  have ha := he.ev ha
  have hb := he.ev hb
  generalize s.ev c' = vc at *
  generalize s.ev a' = va at *
  generalize s.ev b' = vb at *
  unfold pickV at h1
  split at h1
  · injection h1 with h1
    subst h1
    rename_i t x y
    have e1 := hc.bool_inv
    have e2 := ha.bool_inv
    have e3 := hb.bool_inv
    have h : (execOp η o).run P w = .ok (.value (.bool (bif t then x else y))) w := by
      cases t <;> simp [execOp, ho, asBool, e1, e2, e3]
    rw [h]
    exact Done.val hr h2 (.bool _)
  · injection h1 with h1
    subst h1
    rename_i t _
    have e1 := hc.bool_inv
    have h : (execOp η o).run P w = .ok (.value (bif t then η a else η b)) w := by
      cases t <;> simp [execOp, ho, asBool, e1]
    rw [h]
    refine Done.val hr h2 ?_
    cases t
    · exact hb
    · exact ha
  · cases h1

theorem snd_nilck {x : Operand} {x' : Opd} (ho : o.op = .nilCheck x) (hx : compX x = some x')
    (hr : HeapR w O ρ s.n s.h) (he : EvR (envOf w O ρ s.n s.h) s η) (hk : stepO P (.nilck x') s k) : Done P k w O ρ s.h s.n ((execOp η o).run P w) := by
  obtain ⟨r, h1, h2⟩ := optR_some hk
  have hx := he.ev hx
  generalize s.ev x' = vx at *
  unfold nilckV at h1
  have hr' : r = vx := by split at h1 <;> first | (cases h1; done) | (injection h1 with h1; exact h1.symm)
  subst hr'
  have h : (execOp η o).run P w = .ok (.value (η x)) w := by
    split at h1
    · have := hx.ptr_inv.2
      rw [this]; simp [execOp, ho, this]
    · obtain ⟨p, q, hp⟩ := hx.iptr_inv
      rw [hp]; simp [execOp, ho, hp]
    · obtain ⟨vs, hv, _⟩ := hx.fn_inv
      rw [hv]; simp [execOp, ho, hv]
    · cases h1
  rw [h]
  exact Done.val hr h2 hx

theorem snd_extract {x : Operand} {x' : Opd} {i : Nat} (ho : o.op = .extract x i) (hx : compX x = some x')
    (hr : HeapR w O ρ s.n s.h) (he : EvR (envOf w O ρ s.n s.h) s η) (hk : stepO P (.ext i x') s k) : Done P k w O ρ s.h s.n ((execOp η o).run P w) := by
  obtain ⟨r, h1, h2⟩ := optR_some hk
  have hx := he.ev hx
  generalize s.ev x' = vx at *
  unfold extV at h1
  split at h1
  · rename_i vs
    obtain ⟨us, hu, hl, hR⟩ := hx.tup_inv
    have hi : i < us.size := by have := (List.getElem?_eq_some_iff.1 h1).1; omega
    have h : (execOp η o).run P w = .ok (.value us[i]) w := by
      simp [execOp, ho, Instr.extract, hu, hi]
    rw [h]
    exact Done.val hr h2 (hR i r us[i] h1 (by simp [hi]))
  · cases h1

theorem snd_conv {x : Operand} {x' : Opd} {a b : TypeId} {j : IntKind} {d : TypeDesc} (ho : o.op = .convert a b x) (hd : P.underlying a = some d) (hb : P.underlying b = some (.int j)) (hx : compX x = some x')
    (hr : HeapR w O ρ s.n s.h) (he : EvR (envOf w O ρ s.n s.h) s η) (hk : stepO P (.conv j x') s k) : Done P k w O ρ s.h s.n ((execOp η o).run P w) := by
  obtain ⟨r, h1, h2⟩ := optR_some hk
  have hx := he.ev hx
  generalize s.ev x' = vx at *
  unfold convV at h1
  split at h1
  · injection h1 with h1
    subst h1
    rename_i _ z
    have e := hx.int_inv
    have h : (execOp η o).run P w = .ok (.value (.int j (j.wrap z))) w := by
      simp [execOp, ho, convert, run_underlying hd, run_underlying hb, e, Conv.intToInt]
    rw [h]
    exact Done.val hr h2 (.int _ _)
  · cases h1

theorem snd_un {x : Operand} {x' : Opd} {t : TypeId} {op : UnOp} (ho : o.op = .unOp op t x) (hx : compX x = some x')
    (hr : HeapR w O ρ s.n s.h) (he : EvR (envOf w O ρ s.n s.h) s η) (hk : stepO P (.un op x') s k) : Done P k w O ρ s.h s.n ((execOp η o).run P w) := by
  have hx := he.ev hx
  simp only [stepO] at hk
  generalize s.ev x' = vx at *
  unfold unK at hk
  split at hk
  · rename_i j a
    have e := hx.int_inv
    have h : (execOp η o).run P w = .ok (.value (.int j (j.wrap (0 - a)))) w := by
      simp [execOp, ho, Op.unary, Op.intArith, e]
    rw [h]
    exact Done.val hr hk.2 (arith_done hk.1)
  · rename_i b
    have e := hx.bool_inv
    have h : (execOp η o).run P w = .ok (.value (.bool !b)) w := by
      simp [execOp, ho, Op.unary, e]
    rw [h]
    exact Done.val hr hk (.bool _)
  · rename_i j a
    have e := hx.int_inv
    have h : (execOp η o).run P w = .ok (.value (.int j (bitZ .xor j (bif j.signed then -1 else j.max) a))) w := by
      cases hs : j.signed <;> simp [execOp, ho, Op.unary, Op.intBits, bitZ, e, hs]
    rw [h]
    exact Done.val hr hk (.int _ _)
  · exact hk.elim

theorem snd_mkfn {f : FuncId} {xs : Array Operand} {xs' : List Opd} (ho : o.op = .makeFunc (.func f) #[] xs) (hx : compXs xs.toList = some xs')
    (hr : HeapR w O ρ s.n s.h) (he : EvR (envOf w O ρ s.n s.h) s η) (hk : stepO P (.mkfn f xs') s k) : Done P k w O ρ s.h s.n ((execOp η o).run P w) := by
  have h : (execOp η o).run P w = .ok (.value (.func (.func f) #[] (xs.toList.map η).toArray)) w := by
    simp [execOp, ho, Instr.makeFunc]
    apply Array.ext'; simp
  rw [h]
  obtain ⟨hl, hR⟩ := he.evs hx
  exact Done.val hr hk (.fn f _ _ hl hR)

theorem snd_faddr {x : Operand} {x' : Opd} {t : TypeId} {i : Nat} {fs : Array Field} {f : Field} {ti : TypeInfo} (ho : o.op = .fieldAddr t x i) (ht : P.underlying t = some (.struct fs)) (hf : fs[i]? = some f)
    (hi : P.info? f.type = some ti) (hz : ti.size ≠ 0) (hx : compX x = some x')
    (hr : HeapR w O ρ s.n s.h) (he : EvR (envOf w O ρ s.n s.h) s η) (hk : stepO P (.faddr f.offset x') s k) : Done P k w O ρ s.h s.n ((execOp η o).run P w) := by
  obtain ⟨r, h1, h2⟩ := optR_some hk
  have hx := he.ev hx
  generalize s.ev x' = vx at *
  have key : ∀ a : Addr, η x = .pointer (some a) → (execOp η o).run P w = .ok (.value (.pointer (some (a.add f.offset)))) w := by
    intro a ha
    simp [execOp, ho, Instr.fieldAt, run_underlying ht, hf, Instr.sureAddr, ha, fieldPlace, sizeOf, typeInfo, hi, hz]
  unfold faddrV at h1
  split at h1
  · injection h1 with h1
    subst h1
    have e := hx.ptr_inv.2
    rw [key _ e]
    rw [e] at hx
    exact Done.val hr h2 hx.ptr_add
  · injection h1 with h1
    subst h1
    obtain ⟨p, q, e⟩ := hx.iptr_inv
    rw [key _ e]
    rw [e] at hx
    exact Done.val hr h2 hx.iptr_add
  · cases h1

theorem snd_iaddrA {x i : Operand} {x' i' : Opd} {t e : TypeId} {len : Nat} {ti : TypeInfo} (ho : o.op = .indexAddr t x i) (ht : P.underlying t = some (.array len e)) (hti : P.info? e = some ti)
    (hx : compX x = some x') (hi : compX i = some i')
    (hr : HeapR w O ρ s.n s.h) (he : EvR (envOf w O ρ s.n s.h) s η) (hk : stepO P (.iaddrA len ti.size x' i') s k) : Done P k w O ρ s.h s.n ((execOp η o).run P w) := by
  have hx := he.ev hx
  have hi := he.ev hi
  simp only [stepO] at hk
  generalize s.ev x' = vx at *
  generalize s.ev i' = vi at *
  unfold iaddrAK at hk
  split at hk
  · rename_i j z
    have ei := hi.int_inv
    have key : ∀ a : Addr, η x = .pointer (some a) → 0 ≤ z → z < len → (execOp η o).run P w = .ok (.value (.pointer (some (a.add (z.toNat * ti.size))))) w := by
      intro a ha h0 h1
      simp [execOp, ho, Instr.indexAt, run_underlying ht, ei, ha, asIntOf, Instr.sureAddr, h0, h1, sizeOf, typeInfo, hti]
    split at hk
    · obtain ⟨h0, h1, h2⟩ := hk
      have e := hx.ptr_inv.2
      rw [key _ e h0 h1]
      rw [e] at hx
      exact Done.val hr h2 hx.ptr_add
    · obtain ⟨h0, h1, h2⟩ := hk
      obtain ⟨p, q, e⟩ := hx.iptr_inv
      rw [key _ e h0 h1]
      rw [e] at hx
      exact Done.val hr h2 hx.iptr_add
    · exact hk.elim
  · exact hk.elim

theorem eqGuard_plain {op : BinOp} {t : TypeId} {x y : Operand} {a b : Value} (h : ∀ cs cs', a = .agg cs → b = .agg cs' → False) (h' : a = .nilIface → b = .nilIface → False) :
    (eqGuard op t x y a b).run P w = .ok () w := by
  have key : eqGuard op t x y a b = pure () := by
    unfold eqGuard
    cases a <;> first
      | (cases b <;> first | (exact (h' rfl rfl).elim) | (exact (h _ _ rfl rfl).elim) | (cases op <;> rfl))
  rw [key]; rfl

theorem str_eq_dec (a b : List UInt8) : (((⟨⟨a⟩⟩ : ByteArray).toList) == (⟨⟨b⟩⟩ : ByteArray).toList) = decide (a = b) := by
  rw [toList_mk, toList_mk, Bool.eq_iff_iff]; simp

theorem lst_eq_dec (a b : List UInt8) : (a == b) = decide (a = b) := by rw [Bool.eq_iff_iff]; simp

theorem bool_eq_dec (a b : Bool) : (a == b) = decide (a = b) := by cases a <;> cases b <;> rfl

theorem snd_bin {x y : Operand} {x' y' : Opd} {t t' : TypeId} {op : BinOp} (ho : o.op = .binOp op t x y t')
    (hx : compX x = some x') (hy : compX y = some y')
    (hr : HeapR w O ρ s.n s.h) (he : EvR (envOf w O ρ s.n s.h) s η) (hk : stepO P (.bin op x' y') s k) : Done P k w O ρ s.h s.n ((execOp η o).run P w) := by
  have hx := he.ev hx
  have hy := he.ev hy
  simp only [stepO] at hk
  generalize s.ev x' = vx at *
  generalize s.ev y' = vy at *
  have run : ∀ v, (eqGuard op t x y (η x) (η y)).run P w = .ok () w → (binOp op t (η x) (η y)).run P w = .ok v w → (execOp η o).run P w = .ok (.value v) w := by
    intro v h0 h1
    simp [execOp, ho, h0, h1]
  unfold binK at hk
  split at hk
  · rename_i j a j' b
    obtain ⟨rfl, hk⟩ := hk
    have e1 := hx.int_inv
    have e2 := hy.int_inv
    have g : (eqGuard op t x y (η x) (η y)).run P w = .ok () w := by rw [e1, e2]; exact eqGuard_plain (by simp) (by simp)
    have ar : ∀ z, inR j z → (binOp op t (.int j a) (.int j b)).run P w = .ok (.int j (j.wrap z)) w → k (wrapV j z) s.h s.n → Done P k w O ρ s.h s.n ((execOp η o).run P w) := by
      intro z hz hb hk
      rw [run _ g (by rw [e1, e2]; exact hb)]
      exact Done.val hr hk (arith_done hz)
    have bo : ∀ c, (binOp op t (.int j a) (.int j b)).run P w = .ok (.bool c) w → k (.bool c) s.h s.n → Done P k w O ρ s.h s.n ((execOp η o).run P w) := by
      intro c hb hk
      rw [run _ g (by rw [e1, e2]; exact hb)]
      exact Done.val hr hk (.bool _)
    cases op <;> try exact hk.elim
    case add => exact ar _ hk.1 (by simp [binOp, Op.intArith]) hk.2
    case sub => exact ar _ hk.1 (by simp [binOp, Op.intArith]) hk.2
    case mul => exact ar _ hk.1 (by simp [binOp, Op.intArith]) hk.2
    case quo => exact ar _ hk.2.1 (by simp [binOp, Op.intDiv, hk.1]) hk.2.2
    case rem =>
      rw [run (.int j (a.tmod b)) g (by rw [e1, e2]; simp [binOp, Op.intDiv, hk.1])]
      exact Done.val hr hk.2 (.int _ _)
    case eql => exact bo _ (by simp [binOp, Op.intCmp, dec_eq]) hk
    case neq => exact bo _ (by simp [binOp, Op.intCmp, dec_ne]) hk
    case lss => exact bo _ (by simp [binOp, Op.intCmp]) hk
    case leq => exact bo _ (by simp [binOp, Op.intCmp]) hk
    case gtr => exact bo _ (by simp [binOp, Op.intCmp]) hk
    case geq => exact bo _ (by simp [binOp, Op.intCmp]) hk
    case and => rw [run (.int j (bitZ .and j a b)) g (by rw [e1, e2]; simp [binOp, Op.intBits, bitZ])]; exact Done.val hr hk (.int _ _)
    case or => rw [run (.int j (bitZ .or j a b)) g (by rw [e1, e2]; simp [binOp, Op.intBits, bitZ])]; exact Done.val hr hk (.int _ _)
    case xor => rw [run (.int j (bitZ .xor j a b)) g (by rw [e1, e2]; simp [binOp, Op.intBits, bitZ])]; exact Done.val hr hk (.int _ _)
    case andNot => rw [run (.int j (bitZ .andNot j a b)) g (by rw [e1, e2]; simp [binOp, Op.intBits, bitZ])]; exact Done.val hr hk (.int _ _)
  · rename_i a b
    have e1 := hx.str_inv
    have e2 := hy.str_inv
    have g : (eqGuard op t x y (η x) (η y)).run P w = .ok () w := by rw [e1, e2]; exact eqGuard_plain (by simp) (by simp)
    have bo : ∀ c, (binOp op t (.string ⟨⟨a⟩⟩) (.string ⟨⟨b⟩⟩)).run P w = .ok (.bool c) w → k (.bool c) s.h s.n → Done P k w O ρ s.h s.n ((execOp η o).run P w) := by
      intro c hb hk
      rw [run _ g (by rw [e1, e2]; exact hb)]
      exact Done.val hr hk (.bool _)
    cases op <;> try exact hk.elim
    case add =>
      have hs : ¬ (((⟨⟨a⟩⟩ : ByteArray).size + (⟨⟨b⟩⟩ : ByteArray).size : Nat) : Int) > IntKind.i64.max := by
        show ¬ ((a.length + b.length : Nat) : Int) > 9223372036854775807
        have := hk.1
        omega
      have e : (⟨⟨a⟩⟩ ++ ⟨⟨b⟩⟩ : ByteArray) = ⟨⟨a ++ b⟩⟩ := by
        apply ByteArray.ext
        simp
      rw [run (.string ⟨⟨a ++ b⟩⟩) g (by rw [e1, e2]; simp only [binOp, Op.stringOp, if_neg hs, Sem.run_pure, e])]
      exact Done.val hr hk.2 (.str _)
    case eql => exact bo _ (by simp only [binOp, Op.stringOp, str_eq_dec, Sem.run_pure]) hk
    case neq => exact bo _ (by simp only [binOp, Op.stringOp, str_eq_dec, Sem.run_pure]; simp) hk
    case lss => exact bo _ (by simp only [binOp, Op.stringOp, toList_mk, Sem.run_pure, bytesLt]) hk
    case geq => exact bo _ (by simp only [binOp, Op.stringOp, toList_mk, Sem.run_pure, bytesLt]) hk
    case leq => exact bo _ (by simp only [binOp, Op.stringOp, toList_mk, Sem.run_pure, bytesLt, lst_eq_dec]) hk
    case gtr => exact bo _ (by simp only [binOp, Op.stringOp, toList_mk, Sem.run_pure, bytesLt, lst_eq_dec]) hk
  · exact hk.elim

theorem snd_sh {x y : Operand} {x' y' : Opd} {t t' : TypeId} {left : Bool} (ho : o.op = .binOp (if left then .shl else .shr) t x y t')
    (hx : compX x = some x') (hy : compX y = some y')
    (hr : HeapR w O ρ s.n s.h) (he : EvR (envOf w O ρ s.n s.h) s η) (hk : stepO P (.sh left x' y') s k) : Done P k w O ρ s.h s.n ((execOp η o).run P w) := by
  have hx := he.ev hx
  have hy := he.ev hy
  simp only [stepO] at hk
  generalize s.ev x' = vx at *
  generalize s.ev y' = vy at *
  unfold shK at hk
  split at hk
  · rename_i j a j' b
    obtain ⟨hb, hk⟩ := hk
    have e1 := hx.int_inv
    have e2 := hy.int_inv
    have hnb : ¬ b < 0 := by omega
    have g : (eqGuard (if left then .shl else .shr) t x y (η x) (η y)).run P w = .ok () w := by rw [e1, e2]; exact eqGuard_plain (by simp) (by simp)
    have hb : (binOp (if left then .shl else .shr) t (.int j a) (.int j' b)).run P w = .ok (.int j (shZ left j a b)) w := by
      cases left <;> simp [binOp, Op.shift, hnb, shZ]
    have : (execOp η o).run P w = .ok (.value (.int j (shZ left j a b))) w := by
      rw [e1, e2] at g
      simp [execOp, ho, e1, e2, g, hb]
    rw [this]
    exact Done.val hr hk (.int _ _)
  · exact hk.elim

theorem run_equal_of {t : TypeId} {x y : Value} {c : Bool} (h : ∀ d, (Op.equalIn (d + 1) t x y).run P w = .ok c w) : (Op.equal t x y).run P w = .ok c w := h 9999
theorem run_equal_p1 {t e : TypeId} (hd : P.underlying t = some (.pointer e)) (b : Option Addr) : (Op.equal t (.pointer none) (.pointer b)).run P w = .ok b.isNone w :=
  run_equal_of fun d => by simp [Op.equalIn, run_underlying hd]
theorem run_equal_p2 {t e : TypeId} (hd : P.underlying t = some (.pointer e)) (a : Addr) : (Op.equal t (.pointer (some a)) (.pointer none)).run P w = .ok false w :=
  run_equal_of fun d => by simp [Op.equalIn, run_underlying hd]
theorem run_equal_m1 {t e u : TypeId} (hd : P.underlying t = some (.map e u)) (b : Option Nat) : (Op.equal t (.map none) (.map b)).run P w = .ok b.isNone w :=
  run_equal_of fun d => by simp [Op.equalIn, run_underlying hd]
theorem run_equal_m2 {t e u : TypeId} (hd : P.underlying t = some (.map e u)) (a : Nat) : (Op.equal t (.map (some a)) (.map none)).run P w = .ok false w :=
  run_equal_of fun d => by simp [Op.equalIn, run_underlying hd]
theorem run_equal_b {t : TypeId} (hd : P.underlying t = some .bool) (a b : Bool) : (Op.equal t (.bool a) (.bool b)).run P w = .ok (a == b) w :=
  run_equal_of fun d => by simp [Op.equalIn, run_underlying hd]

theorem snd_eqp {x y : Operand} {x' y' : Opd} {t t' : TypeId} {neg : Bool} {kind : Nat} {d : TypeDesc} (ho : o.op = .binOp (if neg then .neq else .eql) t x y t') (hd : P.underlying t = some d)
    (hp : (kind = 0 ∧ ∃ e, d = .pointer e) ∨ (kind = 1 ∧ ∃ e u, d = .map e u) ∨ (kind = 2 ∧ d = .bool))
    (hx : compX x = some x') (hy : compX y = some y')
    (hr : HeapR w O ρ s.n s.h) (he : EvR (envOf w O ρ s.n s.h) s η) (hk : stepO P (.eqp kind neg x' y') s k) : Done P k w O ρ s.h s.n ((execOp η o).run P w) := by
  have hx := he.ev hx
  have hy := he.ev hy
  obtain ⟨r, h1, h2⟩ := optR_some hk
  generalize s.ev x' = vx at *
  generalize s.ev y' = vy at *
  cases hkind : kindV kind vx with
  | false => rw [hkind] at h1; cases h1
  | true =>
    rw [hkind, cond_true] at h1
    have fin : ∀ c, (Op.equal t (η x) (η y)).run P w = .ok c w → (eqGuard (if neg then .neq else .eql) t x y (η x) (η y)).run P w = .ok () w →
        (binOp (if neg then .neq else .eql) t (η x) (η y)).run P w = .ok (.bool (if neg then !c else c)) w → r = .bool (if neg then !c else c) → Done P k w O ρ s.h s.n ((execOp η o).run P w) := by
      intro c _ h0 h3 h4
      have : (execOp η o).run P w = .ok (.value (.bool (if neg then !c else c))) w := by simp [execOp, ho, h0, h3]
      rw [this]
      subst h4
      exact Done.val hr h2 (.bool _)
    rcases hp with ⟨rfl, e, rfl⟩ | ⟨rfl, e, u, rfl⟩ | ⟨rfl, rfl⟩
    · have hcase : (∃ c, (Op.equal t (η x) (η y)).run P w = .ok c w ∧ r = .bool (if neg then !c else c)) ∧ (∃ a, η x = .pointer a) ∧ ∃ b, η y = .pointer b := by
        unfold eqpV at h1
        split at h1 <;> first | (cases h1; done) | (simp [kindV] at hkind; done) | skip
        · injection h1 with h1
          rw [hx.nilp_inv, hy.nilp_inv]
          exact ⟨⟨true, by first | exact run_equal_p1 hd _ | exact run_equal_m1 hd _, by cases neg <;> simpa using h1.symm⟩, ⟨_, rfl⟩, ⟨_, rfl⟩⟩
        · injection h1 with h1
          rw [hx.ptr_inv.2, hy.nilp_inv]
          exact ⟨⟨false, by first | exact run_equal_p2 hd _ | exact run_equal_p1 hd _ | exact run_equal_m2 hd _, by cases neg <;> simpa using h1.symm⟩, ⟨_, rfl⟩, ⟨_, rfl⟩⟩
        · injection h1 with h1
          rw [hy.ptr_inv.2, hx.nilp_inv]
          exact ⟨⟨false, by first | exact run_equal_p2 hd _ | exact run_equal_p1 hd _ | exact run_equal_m2 hd _, by cases neg <;> simpa using h1.symm⟩, ⟨_, rfl⟩, ⟨_, rfl⟩⟩
        · injection h1 with h1
          obtain ⟨p, q, hpq⟩ := hx.iptr_inv
          rw [hpq, hy.nilp_inv]
          exact ⟨⟨false, by first | exact run_equal_p2 hd _ | exact run_equal_p1 hd _ | exact run_equal_m2 hd _, by cases neg <;> simpa using h1.symm⟩, ⟨_, rfl⟩, ⟨_, rfl⟩⟩
        · injection h1 with h1
          obtain ⟨p, q, hpq⟩ := hy.iptr_inv
          rw [hpq, hx.nilp_inv]
          exact ⟨⟨false, by first | exact run_equal_p2 hd _ | exact run_equal_p1 hd _ | exact run_equal_m2 hd _, by cases neg <;> simpa using h1.symm⟩, ⟨_, rfl⟩, ⟨_, rfl⟩⟩
      obtain ⟨⟨c, hc, hrc⟩, ⟨a, ha⟩, ⟨b, hb⟩⟩ := hcase
      refine fin c hc (by rw [ha, hb]; exact eqGuard_plain (by simp) (by simp)) ?_ hrc
      rw [ha, hb] at hc ⊢
      cases neg <;> simp [binOp, hc]
    · have hcase : (∃ c, (Op.equal t (η x) (η y)).run P w = .ok c w ∧ r = .bool (if neg then !c else c)) ∧ (∃ a, η x = .map a) ∧ ∃ b, η y = .map b := by
        unfold eqpV at h1
        split at h1 <;> first | (cases h1; done) | (simp [kindV] at hkind; done) | skip
        · injection h1 with h1
          rw [hx.nilm_inv, hy.nilm_inv]
          exact ⟨⟨true, by first | exact run_equal_p1 hd _ | exact run_equal_m1 hd _, by cases neg <;> simpa using h1.symm⟩, ⟨_, rfl⟩, ⟨_, rfl⟩⟩
        · injection h1 with h1
          rw [hx.mp_inv.2, hy.nilm_inv]
          exact ⟨⟨false, by first | exact run_equal_p2 hd _ | exact run_equal_p1 hd _ | exact run_equal_m2 hd _, by cases neg <;> simpa using h1.symm⟩, ⟨_, rfl⟩, ⟨_, rfl⟩⟩
      obtain ⟨⟨c, hc, hrc⟩, ⟨a, ha⟩, ⟨b, hb⟩⟩ := hcase
      refine fin c hc (by rw [ha, hb]; exact eqGuard_plain (by simp) (by simp)) ?_ hrc
      rw [ha, hb] at hc ⊢
      cases neg <;> simp [binOp, hc]
    · have hcase : (∃ c, (Op.equal t (η x) (η y)).run P w = .ok c w ∧ r = .bool (if neg then !c else c)) ∧ (∃ a, η x = .bool a) ∧ ∃ b, η y = .bool b := by
        unfold eqpV at h1
        split at h1 <;> first | (cases h1; done) | (simp [kindV] at hkind; done) | skip
        · injection h1 with h1
          rw [hx.bool_inv, hy.bool_inv]
          rename_i a b
          exact ⟨⟨a == b, run_equal_b hd _ _, by cases neg <;> cases a <;> cases b <;> simpa using h1.symm⟩, ⟨_, rfl⟩, ⟨_, rfl⟩⟩
      obtain ⟨⟨c, hc, hrc⟩, ⟨a, ha⟩, ⟨b, hb⟩⟩ := hcase
      refine fin c hc (by rw [ha, hb]; exact eqGuard_plain (by simp) (by simp)) ?_ hrc
      rw [ha, hb] at hc ⊢
      cases neg <;> simp [binOp, hc]

end
end Go.Abs
