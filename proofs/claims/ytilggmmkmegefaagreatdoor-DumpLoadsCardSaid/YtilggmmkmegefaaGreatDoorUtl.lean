/-
 Lent blocks, families of blocks, maps. No condition.
-/
import Derived.Test.YtilggmmkmegefaaGreatDoorWk
set_option linter.unusedVariables false
set_option linter.unusedSimpArgs false
set_option maxRecDepth 100000
set_option maxHeartbeats 0
namespace Go.Abs
theorem R.flatTo {E E' : Env} (hn : E.n ≤ E'.n) (hρ : ∀ st, st < E.n → E'.ρ st = E.ρ st) {v : V} {x : Value} (h : R E v x) (hf : u9 v = true) : R E' v x := by
 induction h with
 | undef v => exact .undef v
 | bool b => exact .bool b
 | int k n => exact .int k n
 | str s => exact .str s
 | agg cs vs hl h1 _ ih => rw [u9] at hf; exact .agg cs vs hl h1 fun i c v hc hv => ih i c v hc hv (U6 hf hc)
 | tup cs vs hl _ ih => rw [u9] at hf; exact .tup cs vs hl fun i c v hc hv => ih i c v hc hv (U6 hf hc)
 | nilp => exact .nilp
 | ptr b st i j h => rw [← hρ st h]; exact .ptr b st i j (Nat.lt_of_lt_of_le h hn)
 | nils => exact .nils
 | sl b st i n cap h hn' hc =>
  rw [← hρ st h] at hc ⊢
  exact .sl b st i n cap (Nat.lt_of_lt_of_le h hn) hn' hc
 | sl0 b st i a => exact .sl0 b st i a
 | isl es p cap sz f hp hcap hrow hcell _ ih =>
  rw [u9] at hf
  have : es = [] := by simpa using hf
  subst this
  exact .isl0 _ _
 | isl0 a cap => exact .isl0 a cap
 | iptr es i0 j0 p sz f => rw [u9] at hf; cases hf
 | nilm => exact .nilm
 | mp b st h => rw [← hρ st h]; exact .mp b st (Nat.lt_of_lt_of_le h hn)
 | yld b st h => rw [← hρ st h]; exact .yld b st (Nat.lt_of_lt_of_le h hn)
 | fn f cs vs hl _ ih => rw [u9] at hf; exact .fn f cs vs hl fun i c v hc hv => ih i c v hc hv (U6 hf hc)
 | cst v => exact .cst v
 | err t v => exact .err t v
 | anyi k n => exact .anyi k n
def C4c : Blk → Prop
 | .rows _ rs => ∀ r ∈ rs, flatL r = true
 | _ => False
theorem A2r.flatTo {E E' : Env} (hw : E'.w = E.w) (hn : E.n = E'.n) (hρ : E'.ρ = E.ρ) {st : Nat} {b : Blk} (h : A2r E st b) (hf : C4c b) : A2r E' st b := by
 cases b with
 | rows sz rs =>
  obtain ⟨h1, h2, h3, h4⟩ := h
  refine ⟨by rw [hρ]; exact h1, by rw [hρ]; exact h2, by rw [hρ, hw]; exact h3, fun i row hi => ?_⟩
  obtain ⟨h5, h6⟩ := h4 i row hi
  refine ⟨h5, fun j c hj => ?_⟩
  obtain ⟨x, x1, x2, x3⟩ := h6 j c hj
  refine ⟨x, by rw [hw, hρ]; exact x1, x2, x3.flatTo (by omega) (fun st _ => by rw [hρ]) (U6 (hf row (List.mem_of_getElem? hi)) hj)⟩
 | map es => exact hf.elim
 | loop N sl ps p s pend => exact hf.elim
 | mapb => exact hf.elim
 | iter => exact hf.elim
 | raw => exact hf.elim
theorem A4.lend {P : Program} {f : FuncId} {as as' : List V} {h : A2} {n : Nat} {k k1 : Res} (hc : A4 P f as [] n k1) (d : Nat) (has : as'.map (frz d h) = as)
  (hk : ∀ r h' n', n ≤ n' → k1 r h' n' → u9 r = true ∧ (∀ e ∈ h', C4c e.2.2) ∧ k r (h' ++ h) n') : A4 P f as' h n k := by
 intro w O ρ cargs hr hR
 have hno : ∀ x, ¬ Own ρ [] x := fun x ⟨e, he, _⟩ => by cases he
 have hi : Imm (A2p w O) (A8 w O ρ n []) := ⟨Nat.zero_le _, fun st hs => absurd hs (Nat.not_lt_zero _), Nat.le_refl _, fun x _ ho hO => ⟨rfl, hno x, hO⟩⟩
 have hr1 : HeapR w O ρ n [] := ⟨fun e he => (List.not_mem_nil he).elim, fun e he => (List.not_mem_nil he).elim, hr.out, fun e he => (List.not_mem_nil he).elim, fun e he => (List.not_mem_nil he).elim,
  hr.gl.to (Nat.le_refl _) fun x _ h1 h2 => ⟨rfl, hno x, h2⟩⟩
 refine (hc w O ρ cargs hr1 ?_).mono ?_
 ·refine ⟨by rw [← has, List.length_map]; exact hR.1, fun i c v hc hv => ?_⟩
  rw [← has, List.getElem?_map, Option.map_eq_some_iff] at hc
  obtain ⟨c0, hc0, rfl⟩ := hc
  exact (R.frz hr d (hR.2 i c0 v hc0 hv)).monoI hi
 rintro e w' ⟨v, r, h', n', ρ', rfl, hk1, hr', hRv, hx⟩
 obtain ⟨f1, f2, hk2⟩ := hk r h' n' hx.n hk1
 have hlt : ∀ e ∈ h, e.2.1 < n := hr.lt
 have hρ : ∀ e ∈ h, ρ' e.2.1 = ρ e.2.1 := fun e he => hx.ρ _ (hlt e he)
 have hreal : ∀ x, Own ρ h x → x < w.heap.size := fun x h => hr.real h
 have hown : ∀ x, Own ρ' (h' ++ h) x → Own ρ' h' x ∨ Own ρ h x := by
  rintro x ⟨e, he, hc, hb⟩
  rcases List.mem_append.1 he with he | he
  ·exact .inl ⟨e, he, hc, hb⟩
  ·rw [hρ e he] at hc hb
   exact .inr ⟨e, he, hc, hb⟩
 have hxall : Ext (A8 w O ρ n h) (A8 w' O ρ' n' (h' ++ h)) := by
  refine ⟨rfl, hx.n, hx.ρ, hx.wd, fun x hx' ho => ?_⟩
  refine ⟨(hx.blk x hx' (hno x)).1, fun h => ?_⟩
  rcases hown x h with h | h
  ·exact (hx.blk x hx' (hno x)).2 h
  ·exact ho h
 refine ⟨v, r, h' ++ h, n', ρ', rfl, hk2, ⟨?_, ?_, fun x hx' => Nat.lt_of_lt_of_le (hr.out x hx') hx.size, ?_, ?_, hr.gl.mono hxall.imm⟩, R.flatTo (E := A8 w' O ρ' n' h') (E' := A8 w' O ρ' n' (h' ++ h)) (Nat.le_refl _) (fun _ _ => rfl) hRv f1, hxall⟩
 ·intro e he
  rcases List.mem_append.1 he with he | he
  ·exact hr'.lt e he
  ·exact Nat.lt_of_lt_of_le (hlt e he) hx.n
 ·intro e he e' he' hne hc hc'
  rcases List.mem_append.1 he with he | he <;> rcases List.mem_append.1 he' with he' | he'
  ·exact hr'.inj e he e' he' hne hc hc'
  ·rw [hρ e' he'] at hc' ⊢
   intro heq
   have ho : Own ρ h (ρ e'.2.1).blk := ⟨e', he', hc', rfl⟩
   exact (hx.blk _ (hreal _ ho) (hno _)).2 ⟨e, he, hc, heq⟩
  ·rw [hρ e he] at hc ⊢
   intro heq
   have ho : Own ρ h (ρ e.2.1).blk := ⟨e, he, hc, rfl⟩
   exact (hx.blk _ (hreal _ ho) (hno _)).2 ⟨e', he', hc', heq.symm⟩
  ·rw [hρ e he] at hc ⊢
   rw [hρ e' he'] at hc' ⊢
   exact hr.inj e he e' he' hne hc hc'
 ·intro e he hc hO
  rcases List.mem_append.1 he with he | he
  ·exact hr'.notO e he hc hO
  ·rw [hρ e he] at hc hO
   exact hr.notO e he hc hO
 ·intro e he
  rcases List.mem_append.1 he with he | he
  ·exact A2r.flatTo (E := A8 w' O ρ' n' h') (E' := A8 w' O ρ' n' (h' ++ h)) rfl rfl rfl (hr'.blk e he) (f2 e he)
  ·refine (hr.blk e he).monoI hxall.imm (hlt e he) fun hc => ?_
   have ho : Own ρ h (ρ e.2.1).blk := ⟨e, he, hc, rfl⟩
   exact (hx.blk _ (hreal _ ho) (hno _)).1
theorem A0Y.map {st : Nat} {fs : List (List V)} {es es2 : List (V × V)} (hl : es2.length = es.length) (hr : ∀ (i : Nat) p2, es2[i]? = some p2 → ∃ p, es[i]? = some p ∧ Frz st fs p.1 p2.1 ∧ Frz st fs p.2 p2.2) : A0Y st fs (.map es) (.map es2) := by
 rintro E hE st' ⟨h1, mes, clock, h2, h3, h4, h5⟩
 refine ⟨h1, mes, clock, h2, h3.trans hl.symm, fun i p2 m hi hm => ?_, h5⟩
 obtain ⟨p, hp, g1, g2⟩ := hr i p2 hi
 obtain ⟨k1, k2, k3⟩ := h4 i p m hp hm
 exact ⟨g1 _ hE _ k1, g2 _ hE _ k2, k3⟩
theorem A0Y.mapF {st : Nat} {fs : List (List V)} {es : List (V × V)} (g : V × V → V × V) (hr : ∀ p ∈ es, Frz st fs p.1 (g p).1 ∧ Frz st fs p.2 (g p).2) : A0Y st fs (.map es) (.map (es.map g)) := by
 refine A0Y.map (by simp) fun i p2 hi => ?_
 rw [List.getElem?_map, Option.map_eq_some_iff] at hi
 obtain ⟨p, hp, rfl⟩ := hi
 exact ⟨p, hp, hr p (List.mem_of_getElem? hp)⟩
def A9B (F : Nat → List (List V)) (S : Nat → Nat) (i : Nat) : Nat × Nat × Blk := (1000000000000 + i, S i, .rows 1 (F i))
theorem C1u {k i : Nat} (h : k < 1000000000000) : Nat.beq (1000000000000 + i) k = false := by
 cases hb : Nat.beq (1000000000000 + i) k with
 | false => rfl
 | true => have := Nat.eq_of_beq_eq_true hb; omega
theorem D1.of {s s' : St} (h1 : A1Q s.sl s'.sl) (h2 : ∀ e ∈ s'.h, e ∈ s.h) (h3 : s.n ≤ s'.n) : D1 s s' := ⟨E5.1 h1, h2, h3⟩
theorem B3C.of {st : Nat} {rs : List (List V)} {sl : List (Nat × V)} : ∀ {l : List (Nat × V)}, (∀ p ∈ l, p.2 = C8 sl p.1) → B3C st rs sl l
 | [], _ => trivial
 | p :: r, h => ⟨Frz.of (F3.of_eq (h p List.mem_cons_self).symm), B3C.of fun q hq => h q (List.mem_cons_of_mem _ hq)⟩
theorem A7y.of {b st : Nat} {rs : List (List V)} {h : A2} : ∀ {l : A2}, (∀ e ∈ l, e ∈ h ∧ e.1 ≠ b) → A7y b st rs h l
 | [], _ => trivial
 | e :: r, hm => ⟨⟨e.2.2, (hm e List.mem_cons_self).1, (hm e List.mem_cons_self).2, A0Y.of (.refl _)⟩, A7y.of fun x hx => hm x (List.mem_cons_of_mem _ hx)⟩
theorem A8g.of {sl : List (Nat × V)} : ∀ {l : List (Nat × V)}, (∀ p ∈ l, p.2 = C8 sl p.1) → A8g sl l
 | [], _ => trivial
 | p :: r, h => ⟨F3.of_eq (h p List.mem_cons_self).symm, A8g.of fun q hq => h q (List.mem_cons_of_mem _ hq)⟩
theorem Wk.cell {b st b2 st2 a k n : Nat} {R T : List (List V)} {X : A2} {sl sl' : List (Nat × V)} (hS : A1Q sl sl') (hb : b2 ≠ b) (hX : ∀ e ∈ X, e.1 ≠ b) (hk : k = R.length) :
  Wk ⟨sl, (b, st, .rows 1 R) :: (b2, st2, .rows 1 (T.set a [.sl b st 0 k])) :: X, n⟩ ⟨sl', (b2, st2, .rows 1 (T.set a [.isl R])) :: X, n⟩ := by
 refine Wk.freeze (b := b) (st := st) (sz := 1) (rs := R) List.mem_cons_self (B3C.of (E5.1 hS)) (.at 1 rfl hb (A0Y.rows (by simp) fun i r2 hi => ?_) (A7y.of fun e he => ⟨by simp [he], hX e he⟩))
 rw [List.getElem?_set] at hi ⊢
 by_cases c : a = i
 ·subst c
  rw [if_pos rfl] at hi ⊢
  split at hi
  ·injection hi with hi
   subst hi
   rename_i h3
   exact ⟨[.sl b st 0 k], by rw [if_pos h3], ⟨Frz.all hk, trivial⟩⟩
  ·cases hi
 ·rw [if_neg c] at hi ⊢
  exact ⟨r2, hi, B0j.same r2⟩
theorem Q4.set {T : List (List V)} {a b b2 st k : Nat} : Q4 (.rows 1 (T.set a [.sl b st 0 k])) (.rows 1 (T.set a [.sl b2 st 0 k])) :=
 Q4.rows (by simp) fun i r2 hi => by
  rw [List.getElem?_set] at hi ⊢
  by_cases c : a = i
  ·subst c
   rw [if_pos rfl] at hi ⊢
   split at hi
   ·injection hi with hi
    subst hi
    rename_i h3
    exact ⟨[.sl b st 0 k], by rw [if_pos h3], ⟨F3.sl, trivial⟩⟩
   ·cases hi
  ·rw [if_neg c] at hi ⊢
   exact ⟨r2, hi, A2Y.refl r2⟩
def M2 (es : List (V × V)) : Prop := ∀ e ∈ es, ∃ z, e.1 = .int .i64 z
theorem M2.nil : M2 [] := fun e h => by cases h
theorem A0j (a b : Int) : A0V (.int .i64 a) (.int .i64 b) = some (decide (a = b)) := rfl
theorem M2.ok : ∀ {es : List (V × V)} (h : M2 es) (k : Int), A0c (.int .i64 k) es
 | [], _, _ => trivial
 | e :: r, h, k => by
  obtain ⟨z, hz⟩ := h e List.mem_cons_self
  exact ⟨by rw [hz]; rfl, M2.ok (fun x hx => h x (List.mem_cons_of_mem _ hx)) k⟩
theorem M2.set : ∀ {es : List (V × V)} (h : M2 es) (k : Int) (v : V), M2 (A3H (.int .i64 k) v es)
 | [], _, k, v => fun e he => by rw [A3H] at he; rw [List.mem_singleton.1 he]; exact ⟨k, rfl⟩
 | e :: r, h, k, v => by
  have ih := M2.set (fun x hx => h x (List.mem_cons_of_mem _ hx) : M2 r) k v
  rw [A3H]
  cases (A0V (.int .i64 k) e.1).getD false with
  | true =>
   intro x hx
   rcases List.mem_cons.1 hx with rfl | hx
   ·exact ⟨k, rfl⟩
   ·exact h x (List.mem_cons_of_mem _ hx)
  | false =>
   intro x hx
   rcases List.mem_cons.1 hx with rfl | hx
   ·exact h x List.mem_cons_self
   ·exact ih x hx
theorem A7C : ∀ {es : List (V × V)} (h : M2 es) (k k' : Int) (v : V), R0 (.int .i64 k') (A3H (.int .i64 k) v es) = if k' = k then some v else R0 (.int .i64 k') es
 | [], _, k, k', v => by
  simp only [A3H, R0, A0j, Option.getD_some]
  by_cases c : k' = k <;> simp [c]
 | e :: r, h, k, k', v => by
  obtain ⟨z, hz⟩ := h e List.mem_cons_self
  have ih := A7C (fun x hx => h x (List.mem_cons_of_mem _ hx) : M2 r) k k' v
  obtain ⟨ek, ev⟩ := e
  simp only at hz
  subst hz
  simp only [A3H, A0j, Option.getD_some]
  by_cases c : k = z
  ·subst c
   simp only [decide_true, cond_true, R0, A0j, Option.getD_some]
   by_cases c2 : k' = k <;> simp [c2]
  ·simp only [c, decide_false, cond_false, R0, A0j, Option.getD_some]
   by_cases c2 : k' = z
   ·subst c2
    have : ¬ k' = k := fun e => c e.symm
    simp [this]
   ·simp only [c2, decide_false, cond_false]
    exact ih
structure MSet (es : List (V × V)) (S : Int → Bool) : Prop where
 keys : M2 es
 find : ∀ k, R0 (.int .i64 k) es = if S k then some (.bool true) else none
theorem MSet.put {es : List (V × V)} {S : Int → Bool} (h : MSet es S) (z : Int) : MSet (A3H (.int .i64 z) (.bool true) es) fun k => S k || decide (k = z) :=
 ⟨h.keys.set z _, fun k => by
  rw [A7C h.keys, h.find]
  by_cases c : k = z
  ·simp [c]
  ·simp [c]⟩
theorem MSet.of {es : List (V × V)} {S T : Int → Bool} (h : MSet es S) (e : S = T) : MSet es T := e ▸ h
theorem MSet.nil : MSet [] fun _ => false := ⟨.nil, fun k => rfl⟩
structure MNum (es : List (V × V)) (f : Int → Option Nat) : Prop where
 keys : M2 es
 find : ∀ k, R0 (.int .i64 k) es = (f k).map fun j => .int .i64 (j : Nat)
theorem MNum.put {es : List (V × V)} {f : Int → Option Nat} (h : MNum es f) (z : Int) (n : Nat) : MNum (A3H (.int .i64 z) (.int .i64 n) es) fun k => if k = z then some n else f k :=
 ⟨h.keys.set z _, fun k => by
  rw [A7C h.keys, h.find]
  by_cases c : k = z
  ·simp [c]
  ·simp [c]⟩
theorem MNum.of {es : List (V × V)} {f g : Int → Option Nat} (h : MNum es f) (e : f = g) : MNum es g := e ▸ h
theorem MNum.nil : MNum [] fun _ => none := ⟨.nil, fun k => rfl⟩
end Go.Abs
