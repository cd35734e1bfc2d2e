/-
 Lent blocks, families of blocks, maps. No condition.
-/
import Derived.Test.YtoanghfeednogaaGreatDoorWk
set_option linter.unusedVariables false
set_option linter.unusedSimpArgs false
set_option maxRecDepth 100000
set_option maxHeartbeats 0
namespace Go.Abs
theorem R.flatTo {E E' : Env} (hn : E.n ≤ E'.n) (hρ : ∀ st, st < E.n → E'.ρ st = E.ρ st) {v : V} {x : Value} (h : R E v x) (hf : A0c v = true) : R E' v x := by
 induction h with
 | undef v => exact .undef v
 | bool b => exact .bool b
 | int k n => exact .int k n
 | str s => exact .str s
 | agg cs vs hl h1 _ ih => rw [A0c] at hf; exact .agg cs vs hl h1 fun i c v hc hv => ih i c v hc hv (W9 hf hc)
 | tup cs vs hl _ ih => rw [A0c] at hf; exact .tup cs vs hl fun i c v hc hv => ih i c v hc hv (W9 hf hc)
 | nilp => exact .nilp
 | ptr b st i j h => rw [← hρ st h]; exact .ptr b st i j (Nat.lt_of_lt_of_le h hn)
 | nils => exact .nils
 | sl b st i n cap h hn' hc =>
  rw [← hρ st h] at hc ⊢
  exact .sl b st i n cap (Nat.lt_of_lt_of_le h hn) hn' hc
 | sl0 b st i a => exact .sl0 b st i a
 | isl es p cap sz f hp hcap hrow hcell _ ih =>
  rw [A0c] at hf
  have : es = [] := by simpa using hf
  subst this
  exact .isl0 _ _
 | isl0 a cap => exact .isl0 a cap
 | iptr es i0 j0 p sz f => rw [A0c] at hf; cases hf
 | nilm => exact .nilm
 | mp b st h => rw [← hρ st h]; exact .mp b st (Nat.lt_of_lt_of_le h hn)
 | yld b st h => rw [← hρ st h]; exact .yld b st (Nat.lt_of_lt_of_le h hn)
 | fn f cs vs hl _ ih => rw [A0c] at hf; exact .fn f cs vs hl fun i c v hc hv => ih i c v hc hv (W9 hf hc)
 | cst v => exact .cst v
 | err t v => exact .err t v
 | anyi k n => exact .anyi k n
def C6F : Blk → Prop
 | .rows _ rs => ∀ r ∈ rs, flatL r = true
 | _ => False
theorem A2C.flatTo {E E' : Env} (hw : E'.w = E.w) (hn : E.n = E'.n) (hρ : E'.ρ = E.ρ) {st : Nat} {b : Blk} (h : A2C E st b) (hf : C6F b) : A2C E' st b := by
 cases b with
 | rows sz rs =>
  obtain ⟨h1, h2, h3, h4⟩ := h
  refine ⟨by rw [hρ]; exact h1, by rw [hρ]; exact h2, by rw [hρ, hw]; exact h3, fun i row hi => ?_⟩
  obtain ⟨h5, h6⟩ := h4 i row hi
  refine ⟨h5, fun j c hj => ?_⟩
  obtain ⟨x, x1, x2, x3⟩ := h6 j c hj
  refine ⟨x, by rw [hw, hρ]; exact x1, x2, x3.flatTo (by omega) (fun st _ => by rw [hρ]) (W9 (hf row (List.mem_of_getElem? hi)) hj)⟩
 | map es => exact hf.elim
 | loop N sl ps p s pend => exact hf.elim
 | mapb => exact hf.elim
 | iter => exact hf.elim
 | raw => exact hf.elim
theorem A2.lend {P : Program} {f : FuncId} {as as' : List V} {h : A0} {n : Nat} {k k1 : Res} (hc : A2 P f as [] n k1) (d : Nat) (has : as'.map (frz d h) = as)
  (hk : ∀ r h' n', n ≤ n' → k1 r h' n' → A0c r = true ∧ (∀ e ∈ h', C6F e.2.2) ∧ k r (h' ++ h) n') : A2 P f as' h n k := by
 intro w O ρ cargs hr hR
 have hno : ∀ x, ¬ Own ρ [] x := fun x ⟨e, he, _⟩ => by cases he
 have hi : Imm (A2v w O) (A4 w O ρ n []) := ⟨Nat.zero_le _, fun st hs => absurd hs (Nat.not_lt_zero _), Nat.le_refl _, fun x _ ho hO => ⟨rfl, hno x, hO⟩⟩
 have hr1 : HeapR w O ρ n [] := ⟨fun e he => (List.not_mem_nil he).elim, fun e he => (List.not_mem_nil he).elim, hr.out, fun e he => (List.not_mem_nil he).elim, fun e he => (List.not_mem_nil he).elim,
  hr.gl.to (Nat.le_refl _) fun x _ h1 h2 => ⟨rfl, hno x, h2⟩⟩
 refine (hc w O ρ cargs hr1 ?_).mono ?_
 ·refine ⟨by rw [← has, List.length_map]; exact hR.1, fun i c v hc hv => ?_⟩
  rw [← has, List.getElem?_map, Option.map_eq_some_iff] at hc
  obtain ⟨c0, hc0, rfl⟩ := hc
  exact (R.frz hr d (hR.2 i c0 v hc0 hv)).monoI hi
 rintro e w' ⟨v, r, h', n', ρ', rfl, hk1, hr', hRv, hx⟩
 obtain ⟨f1, f2, hk2⟩ := hk r h' n' hx.n hk1
 have hlt : ∀ e ∈ h, e.2.1 < n := hr.lt
 have hρ : ∀ e ∈ h, ρ' e.2.1 = ρ e.2.1 := fun e he => hx.ρ _ (hlt e he)
 have hreal : ∀ x, Own ρ h x → x < w.heap.size := fun x h => hr.real h
 have hown : ∀ x, Own ρ' (h' ++ h) x → Own ρ' h' x ∨ Own ρ h x := by
  rintro x ⟨e, he, hc, hb⟩
  rcases List.mem_append.1 he with he | he
  ·exact .inl ⟨e, he, hc, hb⟩
  ·rw [hρ e he] at hc hb
   exact .inr ⟨e, he, hc, hb⟩
 have hxall : Ext (A4 w O ρ n h) (A4 w' O ρ' n' (h' ++ h)) := by
  refine ⟨rfl, hx.n, hx.ρ, hx.wd, fun x hx' ho => ?_⟩
  refine ⟨(hx.blk x hx' (hno x)).1, fun h => ?_⟩
  rcases hown x h with h | h
  ·exact (hx.blk x hx' (hno x)).2 h
  ·exact ho h
 refine ⟨v, r, h' ++ h, n', ρ', rfl, hk2, ⟨?_, ?_, fun x hx' => Nat.lt_of_lt_of_le (hr.out x hx') hx.size, ?_, ?_, hr.gl.mono hxall.imm⟩, R.flatTo (E := A4 w' O ρ' n' h') (E' := A4 w' O ρ' n' (h' ++ h)) (Nat.le_refl _) (fun _ _ => rfl) hRv f1, hxall⟩
 ·intro e he
  rcases List.mem_append.1 he with he | he
  ·exact hr'.lt e he
  ·exact Nat.lt_of_lt_of_le (hlt e he) hx.n
 ·intro e he e' he' hne hc hc'
  rcases List.mem_append.1 he with he | he <;> rcases List.mem_append.1 he' with he' | he'
  ·exact hr'.inj e he e' he' hne hc hc'
  ·rw [hρ e' he'] at hc' ⊢
   intro heq
   have ho : Own ρ h (ρ e'.2.1).blk := ⟨e', he', hc', rfl⟩
   exact (hx.blk _ (hreal _ ho) (hno _)).2 ⟨e, he, hc, heq⟩
  ·rw [hρ e he] at hc ⊢
   intro heq
   have ho : Own ρ h (ρ e.2.1).blk := ⟨e, he, hc, rfl⟩
   exact (hx.blk _ (hreal _ ho) (hno _)).2 ⟨e', he', hc', heq.symm⟩
  ·rw [hρ e he] at hc ⊢
   rw [hρ e' he'] at hc' ⊢
   exact hr.inj e he e' he' hne hc hc'
 ·intro e he hc hO
  rcases List.mem_append.1 he with he | he
  ·exact hr'.notO e he hc hO
  ·rw [hρ e he] at hc hO
   exact hr.notO e he hc hO
 ·intro e he
  rcases List.mem_append.1 he with he | he
  ·exact A2C.flatTo (E := A4 w' O ρ' n' h') (E' := A4 w' O ρ' n' (h' ++ h)) rfl rfl rfl (hr'.blk e he) (f2 e he)
  ·refine (hr.blk e he).monoI hxall.imm (hlt e he) fun hc => ?_
   have ho : Own ρ h (ρ e.2.1).blk := ⟨e, he, hc, rfl⟩
   exact (hx.blk _ (hreal _ ho) (hno _)).1
theorem A2t.map {st : Nat} {fs : List (List V)} {es es2 : List (V × V)} (hl : es2.length = es.length) (hr : ∀ (i : Nat) p2, es2[i]? = some p2 → ∃ p, es[i]? = some p ∧ Frz st fs p.1 p2.1 ∧ Frz st fs p.2 p2.2) : A2t st fs (.map es) (.map es2) := by
 rintro E hE st' ⟨h1, mes, clock, h2, h3, h4, h5⟩
 refine ⟨h1, mes, clock, h2, h3.trans hl.symm, fun i p2 m hi hm => ?_, h5⟩
 obtain ⟨p, hp, g1, g2⟩ := hr i p2 hi
 obtain ⟨k1, k2, k3⟩ := h4 i p m hp hm
 exact ⟨g1 _ hE _ k1, g2 _ hE _ k2, k3⟩
theorem A2t.mapF {st : Nat} {fs : List (List V)} {es : List (V × V)} (g : V × V → V × V) (hr : ∀ p ∈ es, Frz st fs p.1 (g p).1 ∧ Frz st fs p.2 (g p).2) : A2t st fs (.map es) (.map (es.map g)) := by
 refine A2t.map (by simp) fun i p2 hi => ?_
 rw [List.getElem?_map, Option.map_eq_some_iff] at hi
 obtain ⟨p, hp, rfl⟩ := hi
 exact ⟨p, hp, hr p (List.mem_of_getElem? hp)⟩
def Y6 (F : Nat → List (List V)) (S : Nat → Nat) (i : Nat) : Nat × Nat × Blk := (1000000000000 + i, S i, .rows 1 (F i))
def A1B (F : Nat → List (List V)) (S : Nat → Nat) (m : Nat) : A0 := (List.range m).map (Y6 F S)
theorem t7 {F : Nat → List (List V)} {S : Nat → Nat} {m : Nat} {e : Nat × Nat × Blk} : e ∈ A1B F S m ↔ ∃ i, i < m ∧ Y6 F S i = e := by
 simp only [A1B, List.mem_map, List.mem_range]
theorem C0Z {F : Nat → List (List V)} {S : Nat → Nat} : A1B F S 0 = [] := rfl
theorem C0Y {F : Nat → List (List V)} {S : Nat → Nat} {m : Nat} : A1B F S (m + 1) = A1B F S m ++ [Y6 F S m] := by
 simp [A1B, List.range_succ]
theorem B6b {k i : Nat} (h : k < 1000000000000) : Nat.beq (1000000000000 + i) k = false := by
 cases hb : Nat.beq (1000000000000 + i) k with
 | false => rfl
 | true => have := Nat.eq_of_beq_eq_true hb; omega
theorem A9o {l : A0} {b st : Nat} : ∀ {h : A0}, (∀ e ∈ h, e.1 ≠ b) → A0.get (h ++ l) b st = A0.get l b st
 | [], _ => rfl
 | e :: r, hn => by
  have h1 : Nat.beq e.1 b = false := by
   cases hb : Nat.beq e.1 b with
   | false => rfl
   | true => exact absurd (Nat.eq_of_beq_eq_true hb) (hn e List.mem_cons_self)
  rw [List.cons_append, A0.get, h1, cond_false]
  exact A9o fun x hx => hn x (List.mem_cons_of_mem _ hx)
theorem A9p {l : A0} {b st : Nat} {x : Blk} : ∀ {h : A0}, A0.get h b st = some x → A0.get (h ++ l) b st = some x
 | [], h => by cases h
 | e :: r, h => by
  rw [List.cons_append, A0.get]
  rw [A0.get] at h
  cases hb : Nat.beq e.1 b with
  | true => rw [hb] at h; exact h
  | false => rw [hb] at h; exact A9p h
theorem B6G {F : Nat → List (List V)} {S : Nat → Nat} {m i : Nat} (h : i < m) : A0.get (A1B F S m) (1000000000000 + i) (S i) = some (.rows 1 (F i)) := by
 induction m with
 | zero => omega
 | succ m ih =>
  rw [C0Y]
  by_cases c : i < m
  ·exact A9p (ih c)
  ·obtain rfl : i = m := by omega
   rw [A9o (fun e he => by
    obtain ⟨j, hj, rfl⟩ := t7.1 he
    simp only [Y6]; omega)]
   simp [A0.get, Y6]
theorem B2B {F : Nat → List (List V)} {S : Nat → Nat} {m b : Nat} (h : b < 1000000000000) : A0.del (A1B F S m) b = A1B F S m := by
 refine List.filter_eq_self.2 fun e he => ?_
 obtain ⟨j, hj, rfl⟩ := t7.1 he
 simp only [Y6, B6b h, Bool.not_false]
def C4L (F : Nat → List (List V)) (i : Nat) (X : List (List V)) : Nat → List (List V) := fun j => if j = i then X else F j
theorem C3g {F : Nat → List (List V)} {S : Nat → Nat} {m i : Nat} {X : List (List V)} {e : Nat × Nat × Blk} (h : e ∈ A1B (C4L F i X) S m) : e = (1000000000000 + i, S i, .rows 1 X) ∨ e ∈ A0.del (A1B F S m) (1000000000000 + i) := by
 obtain ⟨j, hj, rfl⟩ := t7.1 h
 by_cases c : j = i
 ·subst c; left; simp [Y6, C4L]
 ·right
  refine A0.mem_del.2 ⟨t7.2 ⟨j, hj, by simp [Y6, C4L, c]⟩, by simp only [Y6]; omega⟩
theorem B7.of {s s' : St} (h1 : y7 s.sl s'.sl) (h2 : ∀ e ∈ s'.h, e ∈ s.h) (h3 : s.n ≤ s'.n) : B7 s s' := ⟨D0.1 h1, h2, h3⟩
theorem B4T.of {st : Nat} {rs : List (List V)} {sl : List (Nat × V)} : ∀ {l : List (Nat × V)}, (∀ p ∈ l, p.2 = C5 sl p.1) → B4T st rs sl l
 | [], _ => trivial
 | p :: r, h => ⟨Frz.of (E6.of_eq (h p List.mem_cons_self).symm), B4T.of fun q hq => h q (List.mem_cons_of_mem _ hq)⟩
theorem A3V.of {b st : Nat} {rs : List (List V)} {h : A0} : ∀ {l : A0}, (∀ e ∈ l, e ∈ h ∧ e.1 ≠ b) → A3V b st rs h l
 | [], _ => trivial
 | e :: r, hm => ⟨⟨e.2.2, (hm e List.mem_cons_self).1, (hm e List.mem_cons_self).2, A2t.of (.refl _)⟩, A3V.of fun x hx => hm x (List.mem_cons_of_mem _ hx)⟩
theorem A5D.of {sl : List (Nat × V)} : ∀ {l : List (Nat × V)}, (∀ p ∈ l, p.2 = C5 sl p.1) → A5D sl l
 | [], _ => trivial
 | p :: r, h => ⟨E6.of_eq (h p List.mem_cons_self).symm, A5D.of fun q hq => h q (List.mem_cons_of_mem _ hq)⟩
theorem Wk.cell {b st b2 st2 a k n : Nat} {R T : List (List V)} {X : A0} {sl sl' : List (Nat × V)} (hS : y7 sl sl') (hb : b2 ≠ b) (hX : ∀ e ∈ X, e.1 ≠ b) (hk : k = R.length) :
  Wk ⟨sl, (b, st, .rows 1 R) :: (b2, st2, .rows 1 (T.set a [.sl b st 0 k])) :: X, n⟩ ⟨sl', (b2, st2, .rows 1 (T.set a [.isl R])) :: X, n⟩ := by
 refine Wk.freeze (b := b) (st := st) (sz := 1) (rs := R) List.mem_cons_self (B4T.of (D0.1 hS)) (.at 1 rfl hb (A2t.rows (by simp) fun i r2 hi => ?_) (A3V.of fun e he => ⟨by simp [he], hX e he⟩))
 rw [List.getElem?_set] at hi ⊢
 by_cases c : a = i
 ·subst c
  rw [if_pos rfl] at hi ⊢
  split at hi
  ·injection hi with hi
   subst hi
   rename_i h3
   exact ⟨[.sl b st 0 k], by rw [if_pos h3], ⟨Frz.all hk, trivial⟩⟩
  ·cases hi
 ·rw [if_neg c] at hi ⊢
  exact ⟨r2, hi, B0j.same r2⟩
theorem Wk.cell0 {b2 st2 a n : Nat} {T : List (List V)} {X : A0} {sl sl' : List (Nat × V)} (hS : y7 sl sl') (hT : T[a]? = some [.nils]) :
  Wk ⟨sl, (b2, st2, .rows 1 T) :: X, n⟩ ⟨sl', (b2, st2, .rows 1 (T.set a [.isl []])) :: X, n⟩ := by
 refine Wk.turn id (A5D.of (D0.1 hS)) (.at 0 rfl rfl (K1.rows (by simp) fun i r2 hi => ?_) (V2.of fun e he => ⟨e, by simp [he], rfl, rfl, .refl _⟩))
 rw [List.getElem?_set] at hi
 by_cases c : a = i
 ·subst c
  rw [if_pos rfl] at hi
  split at hi
  ·injection hi with hi
   subst hi
   exact ⟨_, hT, ⟨E6.nilI, trivial⟩⟩
  ·cases hi
 ·rw [if_neg c] at hi
  exact ⟨r2, hi, A0a.refl r2⟩
theorem C0X {F : Nat → List (List V)} {S : Nat → Nat} {a st b : Nat} {B : List (List V)} {g : Nat → Nat} {h : A0} (hF : F a = B) (hg : g b = 1000000000000 + a) (hgo : ∀ j, j < a → g (1000000000000 + j) = 1000000000000 + j)
  (hm : (b, st, .rows 1 B) ∈ h) (ht : ∀ e ∈ A1B F S a, e ∈ h) : V2 g h (A1B F (fun i => if i = a then st else S i) (a + 1)) := by
 refine V2.of fun e2 he => ?_
 obtain ⟨j, hj, rfl⟩ := t7.1 he
 by_cases c : j = a
 ·subst c
  exact ⟨_, hm, by simp [Y6, hg], by simp [Y6], K1.of_eq (by simp [Y6, hF])⟩
 ·exact ⟨Y6 F S j, ht _ (t7.2 ⟨j, by omega, rfl⟩), by simp only [Y6]; rw [hgo j (by omega)], by simp [Y6, c], .refl _⟩
theorem K1.set {T : List (List V)} {a b b2 st k : Nat} : K1 (.rows 1 (T.set a [.sl b st 0 k])) (.rows 1 (T.set a [.sl b2 st 0 k])) :=
 K1.rows (by simp) fun i r2 hi => by
  rw [List.getElem?_set] at hi ⊢
  by_cases c : a = i
  ·subst c
   rw [if_pos rfl] at hi ⊢
   split at hi
   ·injection hi with hi
    subst hi
    rename_i h3
    exact ⟨[.sl b st 0 k], by rw [if_pos h3], ⟨E6.sl, trivial⟩⟩
   ·cases hi
  ·rw [if_neg c] at hi ⊢
   exact ⟨r2, hi, A0a.refl r2⟩
def O4 (es : List (V × V)) : Prop := ∀ e ∈ es, ∃ z, e.1 = .int .i64 z
theorem O4.nil : O4 [] := fun e h => by cases h
theorem A0B (a b : Int) : A0P (.int .i64 a) (.int .i64 b) = some (decide (a = b)) := rfl
theorem O4.ok : ∀ {es : List (V × V)} (h : O4 es) (k : Int), A0e (.int .i64 k) es
 | [], _, _ => trivial
 | e :: r, h, k => by
  obtain ⟨z, hz⟩ := h e List.mem_cons_self
  exact ⟨by rw [hz]; rfl, O4.ok (fun x hx => h x (List.mem_cons_of_mem _ hx)) k⟩
theorem O4.set : ∀ {es : List (V × V)} (h : O4 es) (k : Int) (v : V), O4 (A2M (.int .i64 k) v es)
 | [], _, k, v => fun e he => by rw [A2M] at he; rw [List.mem_singleton.1 he]; exact ⟨k, rfl⟩
 | e :: r, h, k, v => by
  have ih := O4.set (fun x hx => h x (List.mem_cons_of_mem _ hx) : O4 r) k v
  rw [A2M]
  cases (A0P (.int .i64 k) e.1).getD false with
  | true =>
   intro x hx
   rcases List.mem_cons.1 hx with rfl | hx
   ·exact ⟨k, rfl⟩
   ·exact h x (List.mem_cons_of_mem _ hx)
  | false =>
   intro x hx
   rcases List.mem_cons.1 hx with rfl | hx
   ·exact h x List.mem_cons_self
   ·exact ih x hx
theorem A8f : ∀ {es : List (V × V)} (h : O4 es) (k k' : Int) (v : V), S4 (.int .i64 k') (A2M (.int .i64 k) v es) = if k' = k then some v else S4 (.int .i64 k') es
 | [], _, k, k', v => by
  simp only [A2M, S4, A0B, Option.getD_some]
  by_cases c : k' = k <;> simp [c]
 | e :: r, h, k, k', v => by
  obtain ⟨z, hz⟩ := h e List.mem_cons_self
  have ih := A8f (fun x hx => h x (List.mem_cons_of_mem _ hx) : O4 r) k k' v
  obtain ⟨ek, ev⟩ := e
  simp only at hz
  subst hz
  simp only [A2M, A0B, Option.getD_some]
  by_cases c : k = z
  ·subst c
   simp only [decide_true, cond_true, S4, A0B, Option.getD_some]
   by_cases c2 : k' = k <;> simp [c2]
  ·simp only [c, decide_false, cond_false, S4, A0B, Option.getD_some]
   by_cases c2 : k' = z
   ·subst c2
    have : ¬ k' = k := fun e => c e.symm
    simp [this]
   ·simp only [c2, decide_false, cond_false]
    exact ih
structure MSet (es : List (V × V)) (S : Int → Bool) : Prop where
 keys : O4 es
 find : ∀ k, S4 (.int .i64 k) es = if S k then some (.bool true) else none
theorem MSet.put {es : List (V × V)} {S : Int → Bool} (h : MSet es S) (z : Int) : MSet (A2M (.int .i64 z) (.bool true) es) fun k => S k || decide (k = z) :=
 ⟨h.keys.set z _, fun k => by
  rw [A8f h.keys, h.find]
  by_cases c : k = z
  ·simp [c]
  ·simp [c]⟩
theorem MSet.of {es : List (V × V)} {S T : Int → Bool} (h : MSet es S) (e : S = T) : MSet es T := e ▸ h
theorem MSet.nil : MSet [] fun _ => false := ⟨.nil, fun k => rfl⟩
structure MNum (es : List (V × V)) (f : Int → Option Nat) : Prop where
 keys : O4 es
 find : ∀ k, S4 (.int .i64 k) es = (f k).map fun j => .int .i64 (j : Nat)
theorem MNum.put {es : List (V × V)} {f : Int → Option Nat} (h : MNum es f) (z : Int) (n : Nat) : MNum (A2M (.int .i64 z) (.int .i64 n) es) fun k => if k = z then some n else f k :=
 ⟨h.keys.set z _, fun k => by
  rw [A8f h.keys, h.find]
  by_cases c : k = z
  ·simp [c]
  ·simp [c]⟩
theorem MNum.of {es : List (V × V)} {f g : Int → Option Nat} (h : MNum es f) (e : f = g) : MNum es g := e ▸ h
theorem MNum.nil : MNum [] fun _ => none := ⟨.nil, fun k => rfl⟩
end Go.Abs
