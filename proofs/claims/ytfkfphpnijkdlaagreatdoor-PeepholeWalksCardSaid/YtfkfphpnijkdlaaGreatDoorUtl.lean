/-
 Lent blocks, families of blocks, maps. No condition.
-/
import Derived.Test.YtfkfphpnijkdlaaGreatDoorWk
set_option linter.unusedVariables false
set_option linter.unusedSimpArgs false
set_option maxRecDepth 100000
set_option maxHeartbeats 0
namespace Go.Abs
theorem R.flatTo {E E' : Env} (hn : E.n ≤ E'.n) (hρ : ∀ st, st < E.n → E'.ρ st = E.ρ st) {v : V} {x : Value} (h : R E v x) (hf : flatV v = true) : R E' v x := by
 induction h with
 | undef v => exact .undef v
 | bool b => exact .bool b
 | int k n => exact .int k n
 | str s => exact .str s
 | agg cs vs hl h1 _ ih => rw [flatV] at hf; exact .agg cs vs hl h1 fun i c v hc hv => ih i c v hc hv (flatL_get hf hc)
 | tup cs vs hl _ ih => rw [flatV] at hf; exact .tup cs vs hl fun i c v hc hv => ih i c v hc hv (flatL_get hf hc)
 | nilp => exact .nilp
 | ptr b st i j h => rw [← hρ st h]; exact .ptr b st i j (Nat.lt_of_lt_of_le h hn)
 | nils => exact .nils
 | sl b st i n cap h hn' hc =>
  rw [← hρ st h] at hc ⊢
  exact .sl b st i n cap (Nat.lt_of_lt_of_le h hn) hn' hc
 | sl0 b st i a => exact .sl0 b st i a
 | isl es p cap sz f hp hcap hrow hcell _ ih =>
  rw [flatV] at hf
  have : es = [] := by simpa using hf
  subst this
  exact .isl0 _ _
 | isl0 a cap => exact .isl0 a cap
 | iptr es i0 j0 p sz f => rw [flatV] at hf; cases hf
 | nilm => exact .nilm
 | mp b st h => rw [← hρ st h]; exact .mp b st (Nat.lt_of_lt_of_le h hn)
 | yld b st h => rw [← hρ st h]; exact .yld b st (Nat.lt_of_lt_of_le h hn)
 | fn f cs vs hl _ ih => rw [flatV] at hf; exact .fn f cs vs hl fun i c v hc hv => ih i c v hc hv (flatL_get hf hc)
 | cst v => exact .cst v
 | err t v => exact .err t v
 | anyi k n => exact .anyi k n
def flatB : Blk → Prop
 | .rows _ rs => ∀ r ∈ rs, flatL r = true
 | _ => False
theorem BlkR.flatTo {E E' : Env} (hw : E'.w = E.w) (hn : E.n = E'.n) (hρ : E'.ρ = E.ρ) {st : Nat} {b : Blk} (h : BlkR E st b) (hf : flatB b) : BlkR E' st b := by
 cases b with
 | rows sz rs =>
  obtain ⟨h1, h2, h3, h4⟩ := h
  refine ⟨by rw [hρ]; exact h1, by rw [hρ]; exact h2, by rw [hρ, hw]; exact h3, fun i row hi => ?_⟩
  obtain ⟨h5, h6⟩ := h4 i row hi
  refine ⟨h5, fun j c hj => ?_⟩
  obtain ⟨x, x1, x2, x3⟩ := h6 j c hj
  refine ⟨x, by rw [hw, hρ]; exact x1, x2, x3.flatTo (by omega) (fun st _ => by rw [hρ]) (flatL_get (hf row (List.mem_of_getElem? hi)) hj)⟩
 | map es => exact hf.elim
 | loop N sl ps p s pend => exact hf.elim
 | mapb => exact hf.elim
 | iter => exact hf.elim
theorem CallS.lend {P : Program} {f : FuncId} {as as' : List V} {h : Heap} {n : Nat} {k k1 : Res} (hc : CallS P f as [] n k1) (d : Nat) (has : as'.map (frz d h) = as)
  (hk : ∀ r h' n', n ≤ n' → k1 r h' n' → flatV r = true ∧ (∀ e ∈ h', flatB e.2.2) ∧ k r (h' ++ h) n') : CallS P f as' h n k := by
 intro w O ρ cargs hr hR
 have hno : ∀ x, ¬ Own ρ [] x := fun x ⟨e, he, _⟩ => by cases he
 have hi : Imm (env0 w O) (envOf w O ρ n []) := ⟨Nat.zero_le _, fun st hs => absurd hs (Nat.not_lt_zero _), Nat.le_refl _, fun x _ ho hO => ⟨rfl, hno x, hO⟩⟩
 have hr1 : HeapR w O ρ n [] := ⟨fun e he => (List.not_mem_nil he).elim, fun e he => (List.not_mem_nil he).elim, hr.out, fun e he => (List.not_mem_nil he).elim, fun e he => (List.not_mem_nil he).elim,
  hr.gl.to (Nat.le_refl _) fun x _ h1 h2 => ⟨rfl, hno x, h2⟩⟩
 refine (hc w O ρ cargs hr1 ?_).mono ?_
 ·refine ⟨by rw [← has, List.length_map]; exact hR.1, fun i c v hc hv => ?_⟩
  rw [← has, List.getElem?_map, Option.map_eq_some_iff] at hc
  obtain ⟨c0, hc0, rfl⟩ := hc
  exact (R.frz hr d (hR.2 i c0 v hc0 hv)).monoI hi
 rintro e w' ⟨v, r, h', n', ρ', rfl, hk1, hr', hRv, hx⟩
 obtain ⟨f1, f2, hk2⟩ := hk r h' n' hx.n hk1
 have hlt : ∀ e ∈ h, e.2.1 < n := hr.lt
 have hρ : ∀ e ∈ h, ρ' e.2.1 = ρ e.2.1 := fun e he => hx.ρ _ (hlt e he)
 have hreal : ∀ x, Own ρ h x → x < w.heap.size := fun x h => hr.real h
 have hown : ∀ x, Own ρ' (h' ++ h) x → Own ρ' h' x ∨ Own ρ h x := by
  rintro x ⟨e, he, hc, hb⟩
  rcases List.mem_append.1 he with he | he
  ·exact .inl ⟨e, he, hc, hb⟩
  ·rw [hρ e he] at hc hb
   exact .inr ⟨e, he, hc, hb⟩
 have hxall : Ext (envOf w O ρ n h) (envOf w' O ρ' n' (h' ++ h)) := by
  refine ⟨rfl, hx.n, hx.ρ, hx.wd, fun x hx' ho => ?_⟩
  refine ⟨(hx.blk x hx' (hno x)).1, fun h => ?_⟩
  rcases hown x h with h | h
  ·exact (hx.blk x hx' (hno x)).2 h
  ·exact ho h
 refine ⟨v, r, h' ++ h, n', ρ', rfl, hk2, ⟨?_, ?_, fun x hx' => Nat.lt_of_lt_of_le (hr.out x hx') hx.size, ?_, ?_, hr.gl.mono hxall.imm⟩, R.flatTo (E := envOf w' O ρ' n' h') (E' := envOf w' O ρ' n' (h' ++ h)) (Nat.le_refl _) (fun _ _ => rfl) hRv f1, hxall⟩
 ·intro e he
  rcases List.mem_append.1 he with he | he
  ·exact hr'.lt e he
  ·exact Nat.lt_of_lt_of_le (hlt e he) hx.n
 ·intro e he e' he' hne hc hc'
  rcases List.mem_append.1 he with he | he <;> rcases List.mem_append.1 he' with he' | he'
  ·exact hr'.inj e he e' he' hne hc hc'
  ·rw [hρ e' he'] at hc' ⊢
   intro heq
   have ho : Own ρ h (ρ e'.2.1).blk := ⟨e', he', hc', rfl⟩
   exact (hx.blk _ (hreal _ ho) (hno _)).2 ⟨e, he, hc, heq⟩
  ·rw [hρ e he] at hc ⊢
   intro heq
   have ho : Own ρ h (ρ e.2.1).blk := ⟨e, he, hc, rfl⟩
   exact (hx.blk _ (hreal _ ho) (hno _)).2 ⟨e', he', hc', heq.symm⟩
  ·rw [hρ e he] at hc ⊢
   rw [hρ e' he'] at hc' ⊢
   exact hr.inj e he e' he' hne hc hc'
 ·intro e he hc hO
  rcases List.mem_append.1 he with he | he
  ·exact hr'.notO e he hc hO
  ·rw [hρ e he] at hc hO
   exact hr.notO e he hc hO
 ·intro e he
  rcases List.mem_append.1 he with he | he
  ·exact BlkR.flatTo (E := envOf w' O ρ' n' h') (E' := envOf w' O ρ' n' (h' ++ h)) rfl rfl rfl (hr'.blk e he) (f2 e he)
  ·refine (hr.blk e he).monoI hxall.imm (hlt e he) fun hc => ?_
   have ho : Own ρ h (ρ e.2.1).blk := ⟨e, he, hc, rfl⟩
   exact (hx.blk _ (hreal _ ho) (hno _)).1
theorem FrzB.map {st : Nat} {fs : List (List V)} {es es2 : List (V × V)} (hl : es2.length = es.length) (hr : ∀ (i : Nat) p2, es2[i]? = some p2 → ∃ p, es[i]? = some p ∧ Frz st fs p.1 p2.1 ∧ Frz st fs p.2 p2.2) : FrzB st fs (.map es) (.map es2) := by
 rintro E hE st' ⟨h1, mes, clock, h2, h3, h4, h5⟩
 refine ⟨h1, mes, clock, h2, h3.trans hl.symm, fun i p2 m hi hm => ?_, h5⟩
 obtain ⟨p, hp, g1, g2⟩ := hr i p2 hi
 obtain ⟨k1, k2, k3⟩ := h4 i p m hp hm
 exact ⟨g1 _ hE _ k1, g2 _ hE _ k2, k3⟩
theorem FrzB.mapF {st : Nat} {fs : List (List V)} {es : List (V × V)} (g : V × V → V × V) (hr : ∀ p ∈ es, Frz st fs p.1 (g p).1 ∧ Frz st fs p.2 (g p).2) : FrzB st fs (.map es) (.map (es.map g)) := by
 refine FrzB.map (by simp) fun i p2 hi => ?_
 rw [List.getElem?_map, Option.map_eq_some_iff] at hi
 obtain ⟨p, hp, rfl⟩ := hi
 exact ⟨p, hp, hr p (List.mem_of_getElem? hp)⟩
def famE (F : Nat → List (List V)) (S : Nat → Nat) (i : Nat) : Nat × Nat × Blk := (1000000000000 + i, S i, .rows 1 (F i))
theorem beq_fam' {k i : Nat} (h : k < 1000000000000) : Nat.beq (1000000000000 + i) k = false := by
 cases hb : Nat.beq (1000000000000 + i) k with
 | false => rfl
 | true => have := Nat.eq_of_beq_eq_true hb; omega
theorem Weak.of {s s' : St} (h1 : slotsW s.sl s'.sl) (h2 : ∀ e ∈ s'.h, e ∈ s.h) (h3 : s.n ≤ s'.n) : Weak s s' := ⟨slotsW_iff.1 h1, h2, h3⟩
theorem FrzS.of {st : Nat} {rs : List (List V)} {sl : List (Nat × V)} : ∀ {l : List (Nat × V)}, (∀ p ∈ l, p.2 = sget sl p.1) → FrzS st rs sl l
 | [], _ => trivial
 | p :: r, h => ⟨Frz.of (SameV.of_eq (h p List.mem_cons_self).symm), FrzS.of fun q hq => h q (List.mem_cons_of_mem _ hq)⟩
theorem FrzH.of {b st : Nat} {rs : List (List V)} {h : Heap} : ∀ {l : Heap}, (∀ e ∈ l, e ∈ h ∧ e.1 ≠ b) → FrzH b st rs h l
 | [], _ => trivial
 | e :: r, hm => ⟨⟨e.2.2, (hm e List.mem_cons_self).1, (hm e List.mem_cons_self).2, FrzB.of (.refl _)⟩, FrzH.of fun x hx => hm x (List.mem_cons_of_mem _ hx)⟩
theorem SameS.of {sl : List (Nat × V)} : ∀ {l : List (Nat × V)}, (∀ p ∈ l, p.2 = sget sl p.1) → SameS sl l
 | [], _ => trivial
 | p :: r, h => ⟨SameV.of_eq (h p List.mem_cons_self).symm, SameS.of fun q hq => h q (List.mem_cons_of_mem _ hq)⟩
theorem Wk.cell {b st b2 st2 a k n : Nat} {R T : List (List V)} {X : Heap} {sl sl' : List (Nat × V)} (hS : slotsW sl sl') (hb : b2 ≠ b) (hX : ∀ e ∈ X, e.1 ≠ b) (hk : k = R.length) :
  Wk ⟨sl, (b, st, .rows 1 R) :: (b2, st2, .rows 1 (T.set a [.sl b st 0 k])) :: X, n⟩ ⟨sl', (b2, st2, .rows 1 (T.set a [.isl R])) :: X, n⟩ := by
 refine Wk.freeze (b := b) (st := st) (sz := 1) (rs := R) List.mem_cons_self (FrzS.of (slotsW_iff.1 hS)) (.at 1 rfl hb (FrzB.rows (by simp) fun i r2 hi => ?_) (FrzH.of fun e he => ⟨by simp [he], hX e he⟩))
 rw [List.getElem?_set] at hi ⊢
 by_cases c : a = i
 ·subst c
  rw [if_pos rfl] at hi ⊢
  split at hi
  ·injection hi with hi
   subst hi
   rename_i h3
   exact ⟨[.sl b st 0 k], by rw [if_pos h3], ⟨Frz.all hk, trivial⟩⟩
  ·cases hi
 ·rw [if_neg c] at hi ⊢
  exact ⟨r2, hi, FrzL.same r2⟩
theorem SameB.set {T : List (List V)} {a b b2 st k : Nat} : SameB (.rows 1 (T.set a [.sl b st 0 k])) (.rows 1 (T.set a [.sl b2 st 0 k])) :=
 SameB.rows (by simp) fun i r2 hi => by
  rw [List.getElem?_set] at hi ⊢
  by_cases c : a = i
  ·subst c
   rw [if_pos rfl] at hi ⊢
   split at hi
   ·injection hi with hi
    subst hi
    rename_i h3
    exact ⟨[.sl b st 0 k], by rw [if_pos h3], ⟨SameV.sl, trivial⟩⟩
   ·cases hi
  ·rw [if_neg c] at hi ⊢
   exact ⟨r2, hi, SameL.refl r2⟩
def IntKeys (es : List (V × V)) : Prop := ∀ e ∈ es, ∃ z, e.1 = .int .i64 z
theorem IntKeys.nil : IntKeys [] := fun e h => by cases h
theorem keyEq_int (a b : Int) : keyEq (.int .i64 a) (.int .i64 b) = some (decide (a = b)) := rfl
theorem IntKeys.ok : ∀ {es : List (V × V)} (h : IntKeys es) (k : Int), keyOK (.int .i64 k) es
 | [], _, _ => trivial
 | e :: r, h, k => by
  obtain ⟨z, hz⟩ := h e List.mem_cons_self
  exact ⟨by rw [hz]; rfl, IntKeys.ok (fun x hx => h x (List.mem_cons_of_mem _ hx)) k⟩
theorem IntKeys.set : ∀ {es : List (V × V)} (h : IntKeys es) (k : Int) (v : V), IntKeys (mset (.int .i64 k) v es)
 | [], _, k, v => fun e he => by rw [mset] at he; rw [List.mem_singleton.1 he]; exact ⟨k, rfl⟩
 | e :: r, h, k, v => by
  have ih := IntKeys.set (fun x hx => h x (List.mem_cons_of_mem _ hx) : IntKeys r) k v
  rw [mset]
  cases (keyEq (.int .i64 k) e.1).getD false with
  | true =>
   intro x hx
   rcases List.mem_cons.1 hx with rfl | hx
   ·exact ⟨k, rfl⟩
   ·exact h x (List.mem_cons_of_mem _ hx)
  | false =>
   intro x hx
   rcases List.mem_cons.1 hx with rfl | hx
   ·exact h x List.mem_cons_self
   ·exact ih x hx
theorem mfind_mset : ∀ {es : List (V × V)} (h : IntKeys es) (k k' : Int) (v : V), mfind (.int .i64 k') (mset (.int .i64 k) v es) = if k' = k then some v else mfind (.int .i64 k') es
 | [], _, k, k', v => by
  simp only [mset, mfind, keyEq_int, Option.getD_some]
  by_cases c : k' = k <;> simp [c]
 | e :: r, h, k, k', v => by
  obtain ⟨z, hz⟩ := h e List.mem_cons_self
  have ih := mfind_mset (fun x hx => h x (List.mem_cons_of_mem _ hx) : IntKeys r) k k' v
  obtain ⟨ek, ev⟩ := e
  simp only at hz
  subst hz
  simp only [mset, keyEq_int, Option.getD_some]
  by_cases c : k = z
  ·subst c
   simp only [decide_true, cond_true, mfind, keyEq_int, Option.getD_some]
   by_cases c2 : k' = k <;> simp [c2]
  ·simp only [c, decide_false, cond_false, mfind, keyEq_int, Option.getD_some]
   by_cases c2 : k' = z
   ·subst c2
    have : ¬ k' = k := fun e => c e.symm
    simp [this]
   ·simp only [c2, decide_false, cond_false]
    exact ih
structure MSet (es : List (V × V)) (S : Int → Bool) : Prop where
 keys : IntKeys es
 find : ∀ k, mfind (.int .i64 k) es = if S k then some (.bool true) else none
theorem MSet.put {es : List (V × V)} {S : Int → Bool} (h : MSet es S) (z : Int) : MSet (mset (.int .i64 z) (.bool true) es) fun k => S k || decide (k = z) :=
 ⟨h.keys.set z _, fun k => by
  rw [mfind_mset h.keys, h.find]
  by_cases c : k = z
  ·simp [c]
  ·simp [c]⟩
theorem MSet.of {es : List (V × V)} {S T : Int → Bool} (h : MSet es S) (e : S = T) : MSet es T := e ▸ h
theorem MSet.nil : MSet [] fun _ => false := ⟨.nil, fun k => rfl⟩
structure MNum (es : List (V × V)) (f : Int → Option Nat) : Prop where
 keys : IntKeys es
 find : ∀ k, mfind (.int .i64 k) es = (f k).map fun j => .int .i64 (j : Nat)
theorem MNum.put {es : List (V × V)} {f : Int → Option Nat} (h : MNum es f) (z : Int) (n : Nat) : MNum (mset (.int .i64 z) (.int .i64 n) es) fun k => if k = z then some n else f k :=
 ⟨h.keys.set z _, fun k => by
  rw [mfind_mset h.keys, h.find]
  by_cases c : k = z
  ·simp [c]
  ·simp [c]⟩
theorem MNum.of {es : List (V × V)} {f g : Int → Option Nat} (h : MNum es f) (e : f = g) : MNum es g := e ▸ h
theorem MNum.nil : MNum [] fun _ => none := ⟨.nil, fun k => rfl⟩
end Go.Abs
