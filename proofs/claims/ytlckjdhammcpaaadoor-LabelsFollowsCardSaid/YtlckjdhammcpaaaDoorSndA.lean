/-
  The abstract meaning of the operations that touch no memory is the model's. No condition.
-/
import Derived.Test.YtlckjdhammcpaaaDoorOps
set_option linter.unusedVariables false
set_option linter.unusedSimpArgs false
namespace Go.Abs
variable {P : Program}

def Done (P : Program) (k : Res) (w : World) (O : Nat → Prop) (ρ : Nat → Loc) (h : Heap) (n : Nat) : Result Next → Prop
  | .ok (.value v) w' => ∃ r h' n' ρ', k r h' n' ∧ HeapR w' O ρ' n' h' ∧ R (envOf w' O ρ' n' h') r v ∧ Ext (envOf w O ρ n h) (envOf w' O ρ' n' h')
  | .ok .skip w' => ∃ r h' n' ρ', k r h' n' ∧ HeapR w' O ρ' n' h' ∧ R (envOf w' O ρ' n' h') r Go.undef ∧ Ext (envOf w O ρ n h) (envOf w' O ρ' n' h')
  | .ok (.enter f cargs) w' => w' = w ∧ ∃ as, RL (envOf w O ρ n h) as cargs ∧ CallS P f as h n k
  | _ => False

section
variable {k : Res} {w : World} {O : Nat → Prop} {ρ : Nat → Loc} {h : Heap} {n : Nat}

theorem Done.val {r : V} {v : Value} (hr : HeapR w O ρ n h) (hk : k r h n) (hR : R (envOf w O ρ n h) r v) : Done P k w O ρ h n (.ok (.value v) w) :=
  ⟨r, h, n, ρ, hk, hr, hR, Ext.refl _⟩

theorem optR_some {o : Option V} (h1 : optR o k h n) : ∃ v, o = some v ∧ k v h n := by
  cases o with
  | none => exact h1.elim
  | some v => exact ⟨v, rfl, h1⟩

section
variable {E : Env}
theorem R.cst_inv {u : Value} {v : Value} (h : R E (.cst u) v) : v = u := by cases h; rfl
theorem R.bool_inv {b : Bool} {v : Value} (h : R E (.bool b) v) : v = .bool b := by cases h; rfl
theorem R.int_inv {j : IntKind} {z : Int} {v : Value} (h : R E (.int j z) v) : v = .int j z := by cases h; rfl
theorem R.str_inv {s : List UInt8} {v : Value} (h : R E (.str s) v) : v = .string ⟨⟨s⟩⟩ := by cases h; rfl
theorem R.nilp_inv {v : Value} (h : R E .nilp v) : v = .pointer none := by cases h; rfl
theorem R.nils_inv {v : Value} (h : R E .nils v) : v = .slice none 0 0 := by cases h; rfl
theorem R.nilm_inv {v : Value} (h : R E .nilm v) : v = .map none := by cases h; rfl
theorem R.agg_inv {cs : List V} {v : Value} (h : R E (.agg cs) v) : ∃ vs : Array Value, v = .agg vs ∧ cs.length = vs.size ∧ (∀ (i : Nat) v, vs[i]? = some v → v.oneCell' = true) ∧ ∀ (i : Nat) c v, cs[i]? = some c → vs[i]? = some v → R E c v := by
  cases h with
  | agg _ vs hl h1 hR => exact ⟨vs, rfl, hl, h1, hR⟩
theorem R.tup_inv {cs : List V} {v : Value} (h : R E (.tup cs) v) : ∃ vs : Array Value, v = .tuple vs ∧ RL E cs vs := by
  cases h with
  | tup _ vs hl hR => exact ⟨vs, rfl, hl, hR⟩
theorem R.ptr_inv {b st i j : Nat} {v : Value} (h : R E (.ptr b st i j) v) : st < E.n ∧ v = .pointer (some ⟨(E.ρ st).blk, (E.ρ st).off + i * (E.ρ st).sz + j, none⟩) := by
  cases h with
  | ptr _ _ _ _ h => exact ⟨h, rfl⟩
theorem R.mp_inv {b st : Nat} {v : Value} (h : R E (.mp b st) v) : st < E.n ∧ v = .map (some (E.ρ st).blk) := by
  cases h with
  | mp _ _ h => exact ⟨h, rfl⟩
theorem R.iptr_inv {es : List (List V)} {i j : Nat} {v : Value} (h : R E (.iptr es i j) v) : ∃ p sz, v = .pointer (some ⟨p, sz, none⟩) := by
  cases h with
  | iptr _ _ _ p sz f => exact ⟨_, _, rfl⟩
theorem R.fn_inv {f : FuncId} {cs : List V} {v : Value} (h : R E (.fn f cs) v) : ∃ vs : Array Value, v = .func (.func f) #[] vs ∧ RL E cs vs := by
  cases h with
  | fn _ _ vs hl hR => exact ⟨vs, rfl, hl, hR⟩
end

/-- A pointer's step by a field's place, or by an element's. -/
theorem R.ptr_add {E : Env} {b st i j off : Nat} {a : Addr} (h : R E (.ptr b st i j) (.pointer (some a))) : R E (.ptr b st i (j + off)) (.pointer (some (a.add off))) := by
  obtain ⟨hst, ha⟩ := h.ptr_inv
  injection ha with ha
  injection ha with ha
  subst ha
  have := R.ptr (E := E) b st i (j + off) hst
  have e : (⟨(E.ρ st).blk, (E.ρ st).off + i * (E.ρ st).sz + j, none⟩ : Addr).add off = ⟨(E.ρ st).blk, (E.ρ st).off + i * (E.ρ st).sz + (j + off), none⟩ := by
    unfold Addr.add
    split
    · rename_i h0; subst h0; rfl
    · simp [Nat.add_assoc]
  rw [e]; exact this
theorem R.iptr_add {E : Env} {es : List (List V)} {i j off : Nat} {a : Addr} (h : R E (.iptr es i j) (.pointer (some a))) : R E (.iptr es i (j + off)) (.pointer (some (a.add off))) := by
  cases h with
  | iptr _ _ _ p sz f hp hrow hcell hR =>
    have := R.iptr (E := E) es i (j + off) p sz f hp hrow hcell hR
    have e : (⟨p.block, p.off + i * sz + j, none⟩ : Addr).add off = ⟨p.block, p.off + i * sz + (j + off), none⟩ := by
      unfold Addr.add
      split
      · rename_i h0; subst h0; rfl
      · simp [Nat.add_assoc]
    rw [e]; exact this

theorem cV_R {E : Env} {v : Value} {x : V} (h : cV v = some x) : R E x v := by
  unfold cV at h
  split at h <;> first | (cases h; done) | (injection h with h; subst h; first | exact .bool _ | exact .int _ _ | exact .str _ | exact .nilp | exact .nils | exact .nilm | exact .cst _)

theorem cV_one {v : Value} {x : V} (h : cV v = some x) : v.oneCell' = true := by
  unfold cV at h
  split at h <;> first | (cases h; done) | rfl

theorem cVs_R {E : Env} : ∀ {l : List Value} {xs : List V}, cVs l = some xs → xs.length = l.length ∧ (∀ (i : Nat) c v, xs[i]? = some c → l[i]? = some v → R E c v) ∧ ∀ (i : Nat) v, l[i]? = some v → v.oneCell' = true
  | [], xs, h => by simp [cVs] at h; subst h; simp
  | v :: r, xs, h => by
    simp only [cVs] at h
    split at h
    · rename_i x ys h1 h2
      injection h with h
      subst h
      obtain ⟨hl, hR, h3⟩ := cVs_R (E := E) h2
      refine ⟨by simp [hl], fun i c u hi hu => ?_, fun i u hu => ?_⟩
      · cases i with
        | zero => simp at hi hu; subst hi; subst hu; exact cV_R h1
        | succ i => exact hR i c u (by simpa using hi) (by simpa using hu)
      · cases i with
        | zero => simp at hu; subst hu; exact cV_one h1
        | succ i => exact h3 i u (by simpa using hu)
    · cases h

/-- What the frame's operands stand for. -/
def EvR (E : Env) (s : St) (η : Operand → Value) : Prop := (∀ i, R E (sget s.sl i) (η (.tmp i))) ∧ (∀ v, η (.const v) = v) ∧ (∀ f, η (.func f) = .func (.func f) #[] #[]) ∧ (∀ g, η (.global g) = .pointer (some ⟨g, 0, none⟩)) ∧ GlR E

theorem EvR.ev {E : Env} {s : St} {η : Operand → Value} (h : EvR E s η) {x : Operand} {y : Opd} (hc : compX x = some y) : R E (s.ev y) (η x) := by
  cases x with
  | tmp i => simp [compX] at hc; subst hc; exact h.1 i
  | const v =>
    simp only [compX, Option.map_eq_some_iff] at hc
    obtain ⟨u, hu, rfl⟩ := hc
    rw [h.2.1]
    exact cV_R hu
  | func f =>
    simp [compX] at hc; subst hc
    rw [h.2.2.1]
    exact .fn f [] #[] rfl (by simp)
  | global g =>
    simp only [compX] at hc
    split at hc
    · rename_i hs
      injection hc with hc
      subst hc
      rw [h.2.2.2.1]
      simp only [St.ev, globV]
      cases hg : lookG globs g with
      | none => rw [hg] at hs; cases hs
      | some c => exact h.2.2.2.2.val hg
    · cases hc

theorem EvR.evs {E : Env} {s : St} {η : Operand → Value} (h : EvR E s η) : ∀ {xs : List Operand} {ys : List Opd}, compXs xs = some ys → RL E (ys.map s.ev) (xs.map η).toArray
  | [], ys, hc => by simp [compXs] at hc; subst hc; exact ⟨rfl, by simp⟩
  | x :: r, ys, hc => by
    simp only [compXs] at hc
    split at hc
    · rename_i y ys' h1 h2
      injection hc with hc
      subst hc
      obtain ⟨hl, hR⟩ := EvR.evs h h2
      refine ⟨by simpa using hl, fun i c v hi hv => ?_⟩
      cases i with
      | zero => simp at hi hv; subst hi; subst hv; exact h.ev h1
      | succ i => exact hR i c v (by simpa using hi) (by simpa using hv)
    · cases hc

theorem i64_wrap {z : Int} (h1 : -9223372036854775808 ≤ z) (h2 : z ≤ 9223372036854775807) : IntKind.i64.wrap z = z := IntWalk.i64_in z ⟨h1, h2⟩

theorem arith_done {E : Env} {j : IntKind} {z : Int} (h1 : inR j z) : R E (wrapV j z) (.int j (j.wrap z)) := by
  cases j <;> first
    | (simp only [inR] at h1; rw [i64_wrap h1.1 h1.2]; exact .int _ _)
    | exact .int _ _

theorem toList_mk (s : List UInt8) : (⟨⟨s⟩⟩ : ByteArray).toList = s := by
  exact ByteArray.toList_eq ⟨⟨s⟩⟩

theorem dec_eq (a b : Int) : (a == b) = decide (a = b) := by rw [Bool.eq_iff_iff]; simp
theorem dec_ne (a b : Int) : (a != b) = decide (¬ a = b) := by rw [Bool.eq_iff_iff]; simp

end
end Go.Abs
