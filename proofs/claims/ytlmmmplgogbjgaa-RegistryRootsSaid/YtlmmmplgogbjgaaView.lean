/-
  A call that looks at blocks that its caller still writes, and hands back blocks of its own. No program, no condition.
-/
import Derived.Test.YtlmmmplgogbjgaaWk
set_option linter.unusedVariables false
set_option linter.unusedSimpArgs false
set_option maxRecDepth 100000
namespace Go.Abs

theorem R.flatTo {E E' : Env} (hn : E.n ≤ E'.n) (hρ : ∀ st, st < E.n → E'.ρ st = E.ρ st) {v : V} {x : Value} (h : R E v x) (hf : flatV v = true) : R E' v x := by
  induction h with
  | undef v => exact .undef v
  | bool b => exact .bool b
  | int k n => exact .int k n
  | str s => exact .str s
  | agg cs vs hl h1 _ ih => rw [flatV] at hf; exact .agg cs vs hl h1 fun i c v hc hv => ih i c v hc hv (flatL_get hf hc)
  | tup cs vs hl _ ih => rw [flatV] at hf; exact .tup cs vs hl fun i c v hc hv => ih i c v hc hv (flatL_get hf hc)
  | nilp => exact .nilp
  | ptr b st i j h => rw [← hρ st h]; exact .ptr b st i j (Nat.lt_of_lt_of_le h hn)
  | nils => exact .nils
  | sl b st i n cap h hn' hc =>
    rw [← hρ st h] at hc ⊢
    exact .sl b st i n cap (Nat.lt_of_lt_of_le h hn) hn' hc
  | sl0 b st i a => exact .sl0 b st i a
  | isl es p cap sz f hp hcap hrow hcell _ ih =>
    rw [flatV] at hf
    have : es = [] := by simpa using hf
    subst this
    exact .isl0 _ _
  | isl0 a cap => exact .isl0 a cap
  | iptr es i0 j0 p sz f => rw [flatV] at hf; cases hf
  | nilm => exact .nilm
  | mp b st h => rw [← hρ st h]; exact .mp b st (Nat.lt_of_lt_of_le h hn)
  | yld b st h => rw [← hρ st h]; exact .yld b st (Nat.lt_of_lt_of_le h hn)
  | fn f cs vs hl _ ih => rw [flatV] at hf; exact .fn f cs vs hl fun i c v hc hv => ih i c v hc hv (flatL_get hf hc)
  | cst v => exact .cst v
  | err t v => exact .err t v
  | anyi k n => exact .anyi k n

/-- Rows of plain values. -/
def flatB : Blk → Prop
  | .rows _ rs => ∀ r ∈ rs, flatL r = true
  | _ => False
theorem BlkR.flatTo {E E' : Env} (hw : E'.w = E.w) (hn : E.n = E'.n) (hρ : E'.ρ = E.ρ) {st : Nat} {b : Blk} (h : BlkR E st b) (hf : flatB b) : BlkR E' st b := by
  cases b with
  | rows sz rs =>
    obtain ⟨h1, h2, h3, h4⟩ := h
    refine ⟨by rw [hρ]; exact h1, by rw [hρ]; exact h2, by rw [hρ, hw]; exact h3, fun i row hi => ?_⟩
    obtain ⟨h5, h6⟩ := h4 i row hi
    refine ⟨h5, fun j c hj => ?_⟩
    obtain ⟨x, x1, x2, x3⟩ := h6 j c hj
    refine ⟨x, by rw [hw, hρ]; exact x1, x2, x3.flatTo (by omega) (fun st _ => by rw [hρ]) (flatL_get (hf row (List.mem_of_getElem? hi)) hj)⟩
  | map es => exact hf.elim
  | loop N sl ps p s pend => exact hf.elim
  | mapb => exact hf.elim
  | iter => exact hf.elim

theorem CallS.lend {P : Program} {f : FuncId} {as as' : List V} {h : Heap} {n : Nat} {k k1 : Res} (hc : CallS P f as [] n k1) (d : Nat) (has : as'.map (frz d h) = as)
    (hk : ∀ r h' n', n ≤ n' → k1 r h' n' → flatV r = true ∧ (∀ e ∈ h', flatB e.2.2) ∧ k r (h' ++ h) n') : CallS P f as' h n k := by
  intro w O ρ cargs hr hR
  have hno : ∀ x, ¬ Own ρ [] x := fun x ⟨e, he, _⟩ => by cases he
  have hi : Imm (env0 w O) (envOf w O ρ n []) := ⟨Nat.zero_le _, fun st hs => absurd hs (Nat.not_lt_zero _), Nat.le_refl _, fun x _ ho hO => ⟨rfl, hno x, hO⟩⟩
  have hr1 : HeapR w O ρ n [] := ⟨fun e he => (List.not_mem_nil he).elim, fun e he => (List.not_mem_nil he).elim, hr.out, fun e he => (List.not_mem_nil he).elim, fun e he => (List.not_mem_nil he).elim,
    hr.gl.to (Nat.le_refl _) fun x _ h1 h2 => ⟨rfl, hno x, h2⟩⟩
  refine (hc w O ρ cargs hr1 ?_).mono ?_
  · refine ⟨by rw [← has, List.length_map]; exact hR.1, fun i c v hc hv => ?_⟩
    rw [← has, List.getElem?_map, Option.map_eq_some_iff] at hc
    obtain ⟨c0, hc0, rfl⟩ := hc
    exact (R.frz hr d (hR.2 i c0 v hc0 hv)).monoI hi
  rintro e w' ⟨v, r, h', n', ρ', rfl, hk1, hr', hRv, hx⟩
  obtain ⟨f1, f2, hk2⟩ := hk r h' n' hx.n hk1
  have hlt : ∀ e ∈ h, e.2.1 < n := hr.lt
  have hρ : ∀ e ∈ h, ρ' e.2.1 = ρ e.2.1 := fun e he => hx.ρ _ (hlt e he)
  have hreal : ∀ x, Own ρ h x → x < w.heap.size := fun x h => hr.real h
  have hown : ∀ x, Own ρ' (h' ++ h) x → Own ρ' h' x ∨ Own ρ h x := by
    rintro x ⟨e, he, hc, hb⟩
    rcases List.mem_append.1 he with he | he
    · exact .inl ⟨e, he, hc, hb⟩
    · rw [hρ e he] at hc hb
      exact .inr ⟨e, he, hc, hb⟩
  have hxall : Ext (envOf w O ρ n h) (envOf w' O ρ' n' (h' ++ h)) := by
    refine ⟨rfl, hx.n, hx.ρ, hx.wd, fun x hx' ho => ?_⟩
    refine ⟨(hx.blk x hx' (hno x)).1, fun h => ?_⟩
    rcases hown x h with h | h
    · exact (hx.blk x hx' (hno x)).2 h
    · exact ho h
  refine ⟨v, r, h' ++ h, n', ρ', rfl, hk2, ⟨?_, ?_, fun x hx' => Nat.lt_of_lt_of_le (hr.out x hx') hx.size, ?_, ?_, hr.gl.mono hxall.imm⟩, R.flatTo (E := envOf w' O ρ' n' h') (E' := envOf w' O ρ' n' (h' ++ h)) (Nat.le_refl _) (fun _ _ => rfl) hRv f1, hxall⟩
  · intro e he
    rcases List.mem_append.1 he with he | he
    · exact hr'.lt e he
    · exact Nat.lt_of_lt_of_le (hlt e he) hx.n
  · intro e he e' he' hne hc hc'
    rcases List.mem_append.1 he with he | he <;> rcases List.mem_append.1 he' with he' | he'
    · exact hr'.inj e he e' he' hne hc hc'
    · rw [hρ e' he'] at hc' ⊢
      intro heq
      have ho : Own ρ h (ρ e'.2.1).blk := ⟨e', he', hc', rfl⟩
      exact (hx.blk _ (hreal _ ho) (hno _)).2 ⟨e, he, hc, heq⟩
    · rw [hρ e he] at hc ⊢
      intro heq
      have ho : Own ρ h (ρ e.2.1).blk := ⟨e, he, hc, rfl⟩
      exact (hx.blk _ (hreal _ ho) (hno _)).2 ⟨e', he', hc', heq.symm⟩
    · rw [hρ e he] at hc ⊢
      rw [hρ e' he'] at hc' ⊢
      exact hr.inj e he e' he' hne hc hc'
  · intro e he hc hO
    rcases List.mem_append.1 he with he | he
    · exact hr'.notO e he hc hO
    · rw [hρ e he] at hc hO
      exact hr.notO e he hc hO
  · intro e he
    rcases List.mem_append.1 he with he | he
    · exact BlkR.flatTo (E := envOf w' O ρ' n' h') (E' := envOf w' O ρ' n' (h' ++ h)) rfl rfl rfl (hr'.blk e he) (f2 e he)
    · refine (hr.blk e he).monoI hxall.imm (hlt e he) fun hc => ?_
      have ho : Own ρ h (ρ e.2.1).blk := ⟨e, he, hc, rfl⟩
      exact (hx.blk _ (hreal _ ho) (hno _)).1

/-- The values of a map are given up with a block. -/
theorem FrzB.map {st : Nat} {fs : List (List V)} {es es2 : List (V × V)} (hl : es2.length = es.length) (hr : ∀ (i : Nat) p2, es2[i]? = some p2 → ∃ p, es[i]? = some p ∧ Frz st fs p.1 p2.1 ∧ Frz st fs p.2 p2.2) : FrzB st fs (.map es) (.map es2) := by
  rintro E hE st' ⟨h1, mes, clock, h2, h3, h4, h5⟩
  refine ⟨h1, mes, clock, h2, h3.trans hl.symm, fun i p2 m hi hm => ?_, h5⟩
  obtain ⟨p, hp, g1, g2⟩ := hr i p2 hi
  obtain ⟨k1, k2, k3⟩ := h4 i p m hp hm
  exact ⟨g1 _ hE _ k1, g2 _ hE _ k2, k3⟩
theorem FrzB.mapF {st : Nat} {fs : List (List V)} {es : List (V × V)} (g : V × V → V × V) (hr : ∀ p ∈ es, Frz st fs p.1 (g p).1 ∧ Frz st fs p.2 (g p).2) : FrzB st fs (.map es) (.map (es.map g)) := by
  refine FrzB.map (by simp) fun i p2 hi => ?_
  rw [List.getElem?_map, Option.map_eq_some_iff] at hi
  obtain ⟨p, hp, rfl⟩ := hi
  exact ⟨p, hp, hr p (List.mem_of_getElem? hp)⟩
end Go.Abs
