/-
  What 'flow.Live' answers: the least solution. No condition.
-/
import Derived.Test.YtkibfcnieamdoaaGreatDoorUse
import Derived.Test.YtkibfcnieamdoaaGreatDoorFlowN
import Derived.Test.YtkibfcnieamdoaaGreatDoorLiveT
import Derived.Test.YtkibfcnieamdoaaGreatDoorReachT
import Derived.Test.YtkibfcnieamdoaaGreatDoorFam
set_option linter.unusedVariables false
set_option linter.unusedSimpArgs false
set_option maxRecDepth 100000
set_option maxHeartbeats 0
namespace Go.Proofs.YtkibfcnieamdoaaGreatDoor
open Go.Abs
attribute [local irreducible] CallS Run
-- EV: Ins.v, Ins.row
def tabC (f : Nat → V) (z : V) (n a : Nat) : List (List V) := (List.range n).map fun i => [if i < a then f i else z]
theorem tabC_len (f : Nat → V) (z : V) (n a : Nat) : (tabC f z n a).length = n := by simp [tabC]
theorem tabC_zero (f : Nat → V) (z : V) (n : Nat) : tabC f z n 0 = List.replicate n [z] := by
  unfold tabC
  simp only [Nat.not_lt_zero, if_false]
  rw [List.map_const']; simp
theorem tabC_at {f : Nat → V} {z : V} {n a i : Nat} (h : i < n) : (tabC f z n a)[i]? = some [if i < a then f i else z] := by simp [tabC, h]
theorem tabC_new {f : Nat → V} {z : V} {n a : Nat} (h : a < n) : (tabC f z n a)[a]? = some [z] := by rw [tabC_at h, if_neg (Nat.lt_irrefl a)]
theorem tabC_old {f : Nat → V} {z : V} {n a i : Nat} (h : i < n) (ha : i < a) : (tabC f z n a)[i]? = some [f i] := by rw [tabC_at h, if_pos ha]
theorem tabC_set {f g : Nat → V} {z : V} {n a : Nat} (hg : ∀ i, i < a → g i = f i) : (tabC f z n a).set a [g a] = tabC g z n (a + 1) := by
  refine List.ext_getElem? fun i => ?_
  rw [List.getElem?_set]
  by_cases hi : i < n
  · rw [tabC_at hi, tabC_at hi, tabC_len]
    by_cases c : a = i
    · subst c; simp [hi]
    · rw [if_neg c]
      by_cases d : i < a
      · rw [if_pos d, if_pos (by omega), hg i d]
      · rw [if_neg d, if_neg (by omega)]
  · rw [List.getElem?_eq_none (by rw [tabC_len]; omega), List.getElem?_eq_none (by rw [tabC_len]; omega)]
    split
    · rw [tabC_len, if_neg (by omega)]
    · rfl
theorem tabC_sz (f : Nat → V) (z : V) (n a : Nat) : rowsz (tabC f z n a) 1 = True := eq_true fun r hr => by
  obtain ⟨i, _, rfl⟩ := List.mem_map.1 hr; rfl
def boolR (N : Nat) (f : Nat → Bool) : List (List V) := (List.range N).map fun r => [.bool (f r)]
theorem boolR_len (N : Nat) (f : Nat → Bool) : (boolR N f).length = N := by simp [boolR]
theorem boolR_at {N r : Nat} {f : Nat → Bool} (h : r < N) : (boolR N f)[r]? = some [.bool (f r)] := by simp [boolR, h]
theorem boolR_none (N : Nat) : boolR N (fun _ => false) = List.replicate N [.bool false] := by
  unfold boolR; rw [List.map_const']; simp
theorem fam_mark {M : Nat → Nat → Bool} {N a r : Nat} : (fun i => boolR N (markM M a r i)) = updF (fun i => boolR N (M i)) a ((boolR N (M a)).set r [.bool true]) := by
  funext i
  unfold updF
  by_cases c : i = a
  · subst c
    rw [if_pos rfl]
    refine List.ext_getElem? fun j => ?_
    rw [List.getElem?_set, boolR_len]
    by_cases hj : j < N
    · rw [boolR_at hj, boolR_at hj]
      by_cases d : r = j
      · subst d; simp [hj, markM]
      · rw [if_neg d]; simp [markM, Ne.symm d]
    · rw [List.getElem?_eq_none (by rw [boolR_len]; omega), List.getElem?_eq_none (by rw [boolR_len]; omega)]
      split
      · rw [if_neg (by omega)]
      · rfl
  · rw [if_neg c]
    congr 1
    funext y
    simp [markM, c]
def cntF (q : Nat → Bool) (r : Nat) : Nat := ((List.range r).filter q).length
theorem cntF_yes {q : Nat → Bool} {r : Nat} (h : q r = true) : cntF q (r + 1) = cntF q r + 1 := by simp [cntF, List.range_succ, List.filter_append, h]
theorem cntF_no {q : Nat → Bool} {r : Nat} (h : q r = false) : cntF q (r + 1) = cntF q r := by simp [cntF, List.range_succ, List.filter_append, h]
theorem filter_at {q : Nat → Bool} {r : Nat} (h : q r = true) : ∀ {N : Nat}, r < N → ((List.range N).filter q)[cntF q r]? = some r
  | 0, hr => absurd hr (Nat.not_lt_zero r)
  | N + 1, hr => by
    rw [List.range_succ, List.filter_append]
    by_cases c : r < N
    · have ih := filter_at h c
      rw [List.getElem?_append_left (List.getElem?_eq_some_iff.1 ih).1]; exact ih
    · obtain rfl : r = N := by omega
      have e : cntF q r = (List.filter q (List.range r)).length := rfl
      rw [e, List.getElem?_append_right (Nat.le_refl _)]
      simp [h]
def useP (p : Pro) (a r : Nat) : Bool := match p.code[a]? with | some i => usesB p i r | none => false
def defP (p : Pro) (a : Nat) (to_ : Int) (r : Nat) : Bool := defsB p a to_ r
noncomputable def liveP (p : Pro) (a r : Nat) : Bool := liveB (useP p) (fun a => nextL p.code a) (defP p) a r
noncomputable def lvL (p : Pro) (a : Nat) : List Int := ((List.range (regN p.regs)).filter (liveP p a)).map fun r => ((r : Nat) : Int)
noncomputable def liveV (p : Pro) : V := .isl ((List.range p.code.length).map fun a => [.isl ((lvL p a).map zrw)])
theorem rowszP {α : Type} (f : α → List V) (sz : Nat) (h : ∀ x, (f x).length = sz) (l : List α) : rowsz (l.map f) sz = True := eq_true fun r hr => by obtain ⟨y, _, rfl⟩ := List.mem_map.1 hr; exact h y
def livV (S : Nat → Nat) (N : Nat) (i : Nat) : V := .sl (1000000000000 + i) (S i) 0 N
def useV (p : Pro) (i : Nat) : V := .iptr [rowF (useP p i)] 0 0
def defR (p : Pro) (a : Nat) (l : List Int) : List (List V) := l.map fun x => [.iptr [rowF (defP p a x)] 0 0]
def defV (p : Pro) (i : Nat) : V := .isl (defR p i (nextL p.code i))
def dcT (T : List (List V)) (a b st : Nat) : Nat → List (List V)
  | 0 => T
  | k + 1 => T.set a [.sl b st 0 (k + 1)]
def dcH (R : List (List V)) (b st : Nat) : Nat → Heap
  | 0 => []
  | k + 1 => [(b, st, .rows 1 (R.take (k + 1)))]
theorem defR_len (p : Pro) (a : Nat) (l : List Int) : (defR p a l).length = l.length := by simp [defR]
theorem defR_at {p : Pro} {a k : Nat} {l : List Int} {x : Int} (h : l[k]? = some x) : (defR p a l)[k]? = some [.iptr [rowF (defP p a x)] 0 0] := by simp [defR, h]
theorem take_row1 {R : List (List V)} {k : Nat} {x : List V} (h : R[k]? = some x) : R.take (k + 1) = R.take k ++ [x] := by rw [List.take_add_one, h]; rfl
theorem pro_row11 (p : Pro) : p.row.length = 11 ∧ p.row.take 11 = p.row := by rw [p.row_eq]; exact ⟨rfl, rfl⟩
theorem live_pure (p : Pro) (hc : p.code.length ≤ 10000) (hsub : p.row.map (V.sub lost) = p.row) (hup : ∀ q ∈ p.protos, q.ups.length ≤ 100000) : Pure Tryz.prog 23 [.agg p.row] (liveV p) := by
  obtain ⟨h1, h2⟩ := pro_row11 p
  have hz : Pure Tryz.prog 41 [.agg p.row] (.int .i64 (regN p.regs)) := by rw [p.row_eq]; exact size_pure _ _ _ _ _ _ _ _ _ _ _
  have hnx : ∀ a : Int, Pure Tryz.prog 40 [.agg p.row, .int .i64 a] (.isl ((nextL p.code a).map zrw)) := fun a => by rw [p.row_eq]; exact next_pure p.code a (by omega) _ _ _ _ _ _ _ _ _ _
  have hus : ∀ i : Ins, Pure Tryz.prog 42 [.agg p.row, .agg i.row] (.iptr [rowF (usesB p i)] 0 0) := fun i => uses_pure p i hsub hup
  have hdf : ∀ (a : Nat) (to_ : Int), a < p.code.length → Pure Tryz.prog 43 [.agg p.row, .int .i64 a, .int .i64 to_] (.iptr [rowF (defP p a to_)] 0 0) := fun a to_ ha => defs_pure p a to_ ha (by omega) hsub
  have g5 : p.row[5]? = some (.isl (p.code.map Ins.row)) := by rw [p.row_eq]; rfl
  have k5 : (p.code.map Ins.row).length = p.code.length := List.length_map ..
  have z5 := rowszP Ins.row 5 (fun _ => rfl) p.code
  have r5 : ∀ (k : Nat) x, p.code[k]? = some x → (p.code.map Ins.row)[k]? = some (Ins.row x) := fun k x hk => by rw [List.getElem?_map, hk]; rfl
  have hN := regN_le p.regs
  generalize hNe : regN p.regs = N at *
  generalize hpr : p.row = pr at *
  generalize p.code.map Ins.row = rcode at *
  refine Pure.of 1 (CallS.enter flow_Live_ok (Nat.le_of_ble_eq_true rfl) (Run.go 100 ?_))
  simp -implicitDefEqProofs only [go_sem, Ins.v, Ins.row, initSl, h1, h2]
  refine CallS.pureF hz (by simp -implicitDefEqProofs only [go_sem, Ins.v, Ins.row, hsub]) ?_
  simp -implicitDefEqProofs only [go_sem, Ins.v, Ins.row, h1, h2, g5, k5]
  refine ⟨by omega, by omega, by omega, by omega, by omega, by omega, ?_⟩
  refine Run.keep [40, 39, 38, 6, 5, 4, 3, 1] ?_
  generalize hnn : p.code.length = n at *
  refine Run.roundsK (fun (x : Nat × (Nat → Nat) × Nat) => ⟨[(40, .int .i64 x.1), (39, .int .i64 n), (38, .isl rcode), (6, .sl (23 * 10000 + 36) 3 0 n), (5, .sl (23 * 10000 + 32) 2 0 n), (4, .sl (23 * 10000 + 28) 1 0 n), (3, .int .i64 N), (1, .ptr (23 * 10000 + 1) 0 0 0)],
      ((23 * 10000 + 36), 3, .rows 1 (tabC (defV p) .nils n x.1)) :: ((23 * 10000 + 32), 2, .rows 1 (tabC (useV p) .nilp n x.1)) :: ((23 * 10000 + 28), 1, .rows 1 (tabC (livV x.2.1 N) .nils n x.1)) :: ((23 * 10000 + 1), 0, .rows 11 [pr]) :: famH (fun _ => boolR N fun _ => false) x.2.1 x.1, x.2.2⟩)
    (fun x => x.1 ≤ n) (fun x => n - x.1) (0, fun _ => 0, 4) (Weak.wk (by simp -implicitDefEqProofs only [go_sem, Ins.v, Ins.row, tabC_zero, famH_zero])) (Nat.zero_le _) ?_
  rintro ⟨a, S, m⟩ ha ih
  simp only at ha ih ⊢
  have hfd := fun (b : Nat) hb => famH_del (F := fun _ => boolR N fun _ => false) (S := S) (m := a) (b := b) hb
  refine Run.unf flow_Live_l0_eq (Run.go 100 ?_)
  by_cases hlt : a < n
  · have q0 : ((a : Int) < (n : Int)) = True := eq_true (by omega)
    have q1 : ((0 : Int) ≤ (a : Int)) = True := eq_true (by omega)
    obtain ⟨i, hi⟩ : ∃ i, p.code[a]? = some i := ⟨p.code[a]'(by omega), by simp⟩
    have hir := r5 a i hi
    have t1 := tabC_new (f := livV S N) (z := .nils) hlt
    have t2 := tabC_new (f := useV p) (z := .nilp) hlt
    have t3 := tabC_new (f := defV p) (z := .nils) hlt
    have l1 := tabC_len (livV S N) .nils n a
    have l2 := tabC_len (useV p) .nilp n a
    have l3 := tabC_len (defV p) .nils n a
    have s1 := tabC_sz (livV S N) .nils n a
    have s2 := tabC_sz (useV p) .nilp n a
    have s3 := tabC_sz (defV p) .nils n a
    generalize hT1 : tabC (livV S N) .nils n a = T1 at *
    generalize hT2 : tabC (useV p) .nilp n a = T2 at *
    generalize hT3 : tabC (defV p) .nils n a = T3 at *
    generalize hfm : famH (fun _ => boolR N fun _ => false) S a = fm at *
    simp -implicitDefEqProofs only [go_sem, Ins.v, Ins.row, q0, q1, k5, z5, hir, Ins.row, t1, t2, t3, l1, l2, l3, hlt, h1, h2, hfd, Option.some.injEq, forall_eq']
    refine ⟨by omega, by omega, ?_⟩
    have husi := hus i
    simp only [Ins.row] at husi
    refine CallS.pureF husi (by simp -implicitDefEqProofs only [go_sem, Ins.v, Ins.row, hsub]) ?_
    simp -implicitDefEqProofs only [go_sem, Ins.v, Ins.row, t2, l2, q0, q1, hlt, h1, h2, hfd, Option.some.injEq, forall_eq']
    refine CallS.pureF (hnx a) (by simp -implicitDefEqProofs only [go_sem, Ins.v, Ins.row, hsub]) ?_
    have hnin := fun x (h : x ∈ nextL p.code a) => nextL_in h
    have hnl2 := nextL_len2 p.code a
    have hul : usesB p i = useP p a := by unfold useP; rw [hi]
    have hT3' := hT3
    generalize hnle : nextL p.code a = nl at *
    have hnls : ∀ (k : Nat) (x : Int), nl[k]? = some x → (nl.map zrw)[k]? = some [.int .i64 x] := fun k x h => zrw_at h
    have hnll : (nl.map zrw).length = nl.length := List.length_map ..
    have hnlz := rowszZ' nl
    generalize nl.map zrw = nls at *
    simp -implicitDefEqProofs only [go_sem, Ins.v, Ins.row, hnll, hul]
    refine Run.keep [60, 59, 58, 40, 39, 38, 7, 6, 5, 4, 3, 1] ?_
    have hRl := defR_len p a nl
    have hRa := fun k x (h : nl[k]? = some x) => defR_at (p := p) (a := a) h
    generalize hRR : defR p a nl = RR at *
    refine Run.roundsK (fun (y : Nat × Nat × Nat) => ⟨[(60, .int .i64 y.1), (59, .int .i64 nl.length), (58, .isl nls), (40, .int .i64 a), (39, .int .i64 n), (38, .isl rcode), (7, .int .i64 a), (6, .sl (23 * 10000 + 36) 3 0 n), (5, .sl (23 * 10000 + 32) 2 0 n), (4, .sl (23 * 10000 + 28) 1 0 n), (3, .int .i64 N), (1, .ptr (23 * 10000 + 1) 0 0 0)],
        dcH RR (23 * 10000 + 75) y.2.1 y.1 ++ ((23 * 10000 + 36), 3, .rows 1 (dcT T3 a (23 * 10000 + 75) y.2.1 y.1)) :: ((23 * 10000 + 32), 2, .rows 1 (T2.set a [.iptr [rowF (useP p a)] 0 0])) :: ((23 * 10000 + 28), 1, .rows 1 (T1.set a [.sl (23 * 10000 + 48) (m + 1) 0 N])) :: ((23 * 10000 + 48), m + 1, .rows 1 (List.replicate N [.bool false])) :: ((23 * 10000 + 1), 0, .rows 11 [pr]) :: fm, y.2.2⟩)
      (fun y => y.1 ≤ nl.length) (fun y => nl.length - y.1) (0, 0, m + 1 + 1) ?_ (Nat.zero_le _) ?_
    · refine Weak.wk (Weak.of (by simp -implicitDefEqProofs only [go_sem, Ins.v, Ins.row]) ?_ (by simp -implicitDefEqProofs only [go_sem, Ins.v, Ins.row]))
      intro e he
      simp only [dcH, dcT, List.nil_append, List.mem_cons] at he ⊢
      rcases he with h | h | h | h | h | h <;> simp [h]
    rintro ⟨k, st, m2⟩ hk ih2
    simp only at hk ih2 ⊢
    refine Run.unf flow_Live_l1_eq (Run.go 100 ?_)
    have hzk : ((k + 1 : Nat) : Int) = (k : Int) + 1 := by omega
    by_cases hlk : k < nl.length
    · have w0 : ((k : Int) < (nl.length : Int)) = True := eq_true (by omega)
      have w1 : ((0 : Int) ≤ (k : Int)) = True := eq_true (by omega)
      obtain ⟨x, hx⟩ : ∃ x, nl[k]? = some x := ⟨nl[k], by simp [hlk]⟩
      have hxr := hnls k x hx
      have hdx := hdf a x (by omega)
      have hRx := take_row1 (hRa k x hx)
      have fin := fun s => ih2 s (k + 1, m2, m2 + 1) (by simp only; omega) (by simp only; omega)
      clear ih2
      have hset : ∀ (X : List V), (T3.set a X)[a]? = some X := fun X => by rw [List.getElem?_set]; simp [l3, hlt]
      cases k with
      | zero =>
        simp only [dcH, dcT, List.nil_append, hRx, List.take_zero, List.cons_append] at fin ⊢
        have w0' : ((0 : Int) < (nl.length : Int)) = True := eq_true (by omega)
        simp -implicitDefEqProofs only [go_sem, Ins.v, Ins.row, w0', hnll, hnlz, hxr, hlk, t3, l3, q0, q1, hlt, h1, h2, hfd, Option.some.injEq, forall_eq']
        refine ⟨?_, ?_, ?_⟩ <;>
        (refine CallS.pureF hdx (by simp -implicitDefEqProofs only [go_sem, Ins.v, Ins.row, hsub]) ?_
         simp -implicitDefEqProofs only [go_sem, Ins.v, Ins.row, t3, l3, s3, q0, q1, hlt, h1, h2, hfd, Option.some.injEq, forall_eq']
         refine fin _ (Weak.wk (Weak.of (by simp -implicitDefEqProofs only [go_sem, Ins.v, Ins.row, hzk]) (fun e he => ?_) (by simp -implicitDefEqProofs only [go_sem, Ins.v, Ins.row])))
         simp only [List.mem_cons] at he ⊢
         rcases he with h | h | h | h | h | h | h <;> simp only [h, eq_self, true_or, or_true])
      | succ k =>
        simp only [dcH, dcT, hRx, List.cons_append, List.nil_append] at fin ⊢
        have hRk : (RR.take (k + 1)).length = k + 1 := by rw [List.length_take]; omega
        generalize RR.take (k + 1) = Rk at *
        simp -implicitDefEqProofs only [go_sem, Ins.v, Ins.row, w0, w1, hnll, hnlz, hxr, hlk, hset, l3, q0, q1, hlt, h1, h2, hfd, List.length_set, Option.some.injEq, forall_eq']
        refine ⟨?_, ?_, ?_⟩ <;>
        (refine CallS.pureF hdx (by simp -implicitDefEqProofs only [go_sem, Ins.v, Ins.row, hsub]) ?_
         simp -implicitDefEqProofs only [go_sem, Ins.v, Ins.row, hset, l3, hRk, q0, q1, hlt, h1, h2, hfd, List.length_set, List.set_set, Option.some.injEq, forall_eq']
         refine ⟨by omega, by omega, fin _ (Weak.wk (Weak.of (by simp -implicitDefEqProofs only [go_sem, Ins.v, Ins.row, hzk]) (fun e he => ?_) (by simp -implicitDefEqProofs only [go_sem, Ins.v, Ins.row])))⟩
         rw [List.take_of_length_le (by omega)]
         simp only [List.mem_cons] at he ⊢
         rcases he with h | h | h | h | h | h | h <;> simp only [h, eq_self, true_or, or_true])
    · have e : k = nl.length := by omega
      subst e
      clear ih2
      have hza : ((a + 1 : Nat) : Int) = (a : Int) + 1 := by omega
      have hlive : T1.set a [.sl (1000000000000 + a) (m + 1) 0 N] = tabC (livV (fun i => if i = a then m + 1 else S i) N) .nils n (a + 1) := by
        rw [← hT1]
        have := tabC_set (f := livV S N) (g := livV (fun i => if i = a then m + 1 else S i) N) (z := .nils) (n := n) (a := a) (fun i hi => by simp only [livV]; rw [if_neg (by omega)])
        rw [← this]; simp [livV]
      have hused : T2.set a [.iptr [rowF (useP p a)] 0 0] = tabC (useV p) .nilp n (a + 1) := by
        rw [← hT2, ← tabC_set (g := useV p) (fun i _ => rfl)]; rfl
      have hdefd : T3.set a [.isl RR] = tabC (defV p) .nils n (a + 1) := by
        rw [← hT3, ← tabC_set (g := defV p) (fun i _ => rfl)]; rw [← hRR, ← hnle]; rfl
      have hfin : ∀ (sl : List (Nat × V)) (m3 : Nat), slotsW sl [(40, .int .i64 ((a : Int) + 1)), (39, .int .i64 n), (38, .isl rcode), (6, .sl (23 * 10000 + 36) 3 0 n), (5, .sl (23 * 10000 + 32) 2 0 n), (4, .sl (23 * 10000 + 28) 1 0 n), (3, .int .i64 N), (1, .ptr (23 * 10000 + 1) 0 0 0)] →
          Wk ⟨sl, ((23 * 10000 + 36), 3, .rows 1 (T3.set a [.isl RR])) :: ((23 * 10000 + 32), 2, .rows 1 (T2.set a [.iptr [rowF (useP p a)] 0 0])) :: ((23 * 10000 + 28), 1, .rows 1 (T1.set a [.sl (23 * 10000 + 48) (m + 1) 0 N])) :: ((23 * 10000 + 48), m + 1, .rows 1 (List.replicate N [.bool false])) :: ((23 * 10000 + 1), 0, .rows 11 [pr]) :: fm, m3⟩
            ⟨[(40, .int .i64 ((a : Int) + 1)), (39, .int .i64 n), (38, .isl rcode), (6, .sl (23 * 10000 + 36) 3 0 n), (5, .sl (23 * 10000 + 32) 2 0 n), (4, .sl (23 * 10000 + 28) 1 0 n), (3, .int .i64 N), (1, .ptr (23 * 10000 + 1) 0 0 0)], ((23 * 10000 + 36), 3, .rows 1 (T3.set a [.isl RR])) :: ((23 * 10000 + 32), 2, .rows 1 (T2.set a [.iptr [rowF (useP p a)] 0 0])) :: ((23 * 10000 + 28), 1, .rows 1 (T1.set a [.sl (1000000000000 + a) (m + 1) 0 N])) :: ((23 * 10000 + 1), 0, .rows 11 [pr]) :: famH (fun _ => boolR N fun _ => false) (fun i => if i = a then m + 1 else S i) (a + 1), m3⟩ := by
        intro sl m3 hsl
        refine Wk.turn (fun b => if b = (23 * 10000 + 48) then 1000000000000 + a else b) (SameS.of (slotsW_iff.1 hsl)) (.at 0 rfl rfl (.refl _) (.at 1 rfl rfl (.refl _) (.at 2 rfl rfl SameB.set (.at 4 rfl rfl (.refl _) (famH_join (b := (23 * 10000 + 48)) (boolR_none N) ?_ ?_ ?_ ?_)))))
        · exact if_pos rfl
        · intro j hj; exact if_neg (by omega)
        · simp
        · intro e he; rw [hfm] at he; simp [he]
      have fin := fun s => ih s (a + 1, fun i => if i = a then m + 1 else S i, m2) (by simp only; omega) (by simp only; omega)
      clear ih
      simp only [← hlive, ← hused, ← hdefd, hza] at fin
      have hX : ∀ e ∈ (((23 * 10000 + 32), 2, Blk.rows 1 (T2.set a [.iptr [rowF (useP p a)] 0 0])) :: ((23 * 10000 + 28), 1, .rows 1 (T1.set a [.sl (23 * 10000 + 48) (m + 1) 0 N])) :: ((23 * 10000 + 48), m + 1, .rows 1 (List.replicate N [.bool false])) :: ((23 * 10000 + 1), 0, .rows 11 [pr]) :: fm : Heap), e.1 ≠ (23 * 10000 + 75) := by
        intro e he
        simp only [List.mem_cons] at he
        rcases he with h | h | h | h | h
        · simp [h]
        · simp [h]
        · simp [h]
        · simp [h]
        · rw [← hfm] at h
          obtain ⟨j, _, rfl⟩ := famH_mem.1 h
          simp only [famE]; omega
      generalize hnl : nl.length = L at *
      cases L with
      | zero =>
        simp only [dcH, dcT, List.nil_append]
        have hR0 : RR = [] := List.eq_nil_of_length_eq_zero (by omega)
        subst hR0
        simp -implicitDefEqProofs only [go_sem, Ins.v, Ins.row, Int.lt_irrefl, h1, h2]
        refine ⟨by omega, fin _ (Wk.trans (Wk.cell0 (sl' := [(40, .int .i64 ((a : Int) + 1)), (39, .int .i64 n), (38, .isl rcode), (6, .sl (23 * 10000 + 36) 3 0 n), (5, .sl (23 * 10000 + 32) 2 0 n), (4, .sl (23 * 10000 + 28) 1 0 n), (3, .int .i64 N), (1, .ptr (23 * 10000 + 1) 0 0 0)]) ?_ t3) (hfin _ _ ?_))⟩
        · simp -implicitDefEqProofs only [go_sem, Ins.v, Ins.row]
        · simp -implicitDefEqProofs only [go_sem, Ins.v, Ins.row]
      | succ k =>
        simp only [dcH, dcT, List.cons_append, List.nil_append]
        rw [List.take_of_length_le (by omega)]
        simp -implicitDefEqProofs only [go_sem, Ins.v, Ins.row, Int.lt_irrefl, h1, h2]
        refine ⟨by omega, fin _ (Wk.trans (Wk.cell (sl' := [(40, .int .i64 ((a : Int) + 1)), (39, .int .i64 n), (38, .isl rcode), (6, .sl (23 * 10000 + 36) 3 0 n), (5, .sl (23 * 10000 + 32) 2 0 n), (4, .sl (23 * 10000 + 28) 1 0 n), (3, .int .i64 N), (1, .ptr (23 * 10000 + 1) 0 0 0)]) ?_ (by decide) hX (by omega)) (hfin _ _ ?_))⟩
        · simp -implicitDefEqProofs only [go_sem, Ins.v, Ins.row]
        · simp -implicitDefEqProofs only [go_sem, Ins.v, Ins.row]
  have e : a = n := by omega
  subst e
  clear ih hlt ha
  have tl := fun i (hi : i < a) => tabC_old (f := livV S N) (z := .nils) hi hi
  have tu := fun i (hi : i < a) => tabC_old (f := useV p) (z := .nilp) hi hi
  have td := fun i (hi : i < a) => tabC_old (f := defV p) (z := .nils) hi hi
  have l1 := tabC_len (livV S N) .nils a a
  have l2 := tabC_len (useV p) .nilp a a
  have l3 := tabC_len (defV p) .nils a a
  have s1 := tabC_sz (livV S N) .nils a a
  have s2 := tabC_sz (useV p) .nilp a a
  have s3 := tabC_sz (defV p) .nils a a
  generalize tabC (livV S N) .nils a a = LV at *
  generalize tabC (useV p) .nilp a a = UV at *
  generalize tabC (defV p) .nils a a = DV at *
  simp only [livV, useV, defV] at tl tu td
  clear hfd
  generalize hUe : useP p = U at *
  generalize hDe : defP p = D at *
  have hDR : ∀ i (l : List Int), defR p i l = l.map fun x => [.iptr [rowF (D i x)] 0 0] := fun i l => by rw [← hDe]; rfl
  have hnin := fun (i : Nat) x (h : x ∈ nextL p.code i) => nextL_in h
  rw [hnn] at hnin
  simp -implicitDefEqProofs only [go_sem, Ins.v, Ins.row, Int.lt_irrefl]
  refine Run.keep [11, 6, 5, 4, 3, 1] ?_
  have hbq : ∀ k i : Nat, k < 1000000000000 → (k = 1000000000000 + i) = False := fun k i h => eq_false (by omega)
  have hbq2 : ∀ k i : Nat, k < 1000000000000 → (1000000000000 + i = k) = False := fun k i h => eq_false (by omega)
  refine Run.roundsK (fun (x : (Nat → Nat → Bool) × Bool) => ⟨[(11, .bool x.2), (6, .sl (23 * 10000 + 36) 3 0 a), (5, .sl (23 * 10000 + 32) 2 0 a), (4, .sl (23 * 10000 + 28) 1 0 a), (3, .int .i64 N), (1, .ptr (23 * 10000 + 1) 0 0 0)],
      ((23 * 10000 + 36), 3, .rows 1 DV) :: ((23 * 10000 + 32), 2, .rows 1 UV) :: ((23 * 10000 + 28), 1, .rows 1 LV) :: ((23 * 10000 + 1), 0, .rows 11 [pr]) :: famH (fun i => boolR N (x.1 i)) S a, m⟩)
    (fun x => SoundM U (fun a => nextL p.code a) D x.1 ∧ (x.2 = false → ∀ i r, i < a → r < N → ClosedM U (fun a => nextL p.code a) D x.1 i r)) (fun x => 2 * unM a N x.1 + (if x.2 then 1 else 0)) (fun _ _ => false, true) ?_ ⟨fun _ _ h => absurd h (by simp), fun h => absurd h (by simp)⟩ ?_
  · refine Weak.wk (Weak.of (by simp -implicitDefEqProofs only [go_sem, Ins.v, Ins.row]) (fun e he => he) (by simp -implicitDefEqProofs only [go_sem, Ins.v, Ins.row]))
  rintro ⟨M, more⟩ ⟨hS0, hcl⟩ ih
  simp only at hS0 hcl ih ⊢
  refine Run.unf flow_Live_l2_eq (Run.go 100 ?_)
  cases more with
  | false =>
    have hcl := hcl rfl
    clear ih
    simp -implicitDefEqProofs only [go_sem, Ins.v, Ins.row, h1, h2, g5, k5]
    refine ⟨by omega, by omega, ?_⟩
    refine Run.keep [161, 160, 20, 4, 3] ?_
    have hLV : liveV p = .isl ((List.range a).map fun i => [.isl ((((List.range N).filter (M i)).map fun r => ((r : Nat) : Int)).map zrw)]) := by
      unfold liveV
      rw [hnn]
      refine congrArg V.isl (List.map_congr_left fun i hi => ?_)
      have hia : i < a := List.mem_range.1 hi
      unfold lvL
      rw [hNe, show (List.range N).filter (liveP p i) = (List.range N).filter (M i) from List.filter_congr fun r hr => ?_]
      have hrN := List.mem_range.1 hr
      have e1 : liveP p i r = true ↔ M i r = true := by
        unfold liveP
        rw [hUe, hDe, liveB_iff]
        exact ⟨fun h => closed_live (n := a) (N := N) (fun b x hx => hnin b x hx) hcl h hia hrN, fun h => hS0 i r h⟩
      exact Bool.eq_iff_iff.2 e1
    rw [hLV]
    generalize hM : (fun i => (((List.range N).filter (M i)).map fun r => ((r : Nat) : Int)).map zrw) = OV at *
    have hOV : ∀ i, (((List.range N).filter (M i)).map fun r => ((r : Nat) : Int)).map zrw = OV i := fun i => by rw [← hM]
    simp only [hOV]
    have hfg := fun (i : Nat) hi => famH_get (F := fun i => boolR N (M i)) (S := S) (m := a) (i := i) hi
    have hfd := fun (b : Nat) hb => famH_del (F := fun i => boolR N (M i)) (S := S) (m := a) (b := b) hb
    have hfn : ∀ e ∈ famH (fun i => boolR N (M i)) S a, 1000000000000 ≤ e.1 := fun e he => by
      obtain ⟨j, _, rfl⟩ := famH_mem.1 he
      simp only [famE]; omega
    rw [hfd _ (by decide)]
    generalize famH (fun i => boolR N (M i)) S a = fm at *
    refine Run.roundsK (fun (x : Nat × Nat) => ⟨[(161, .int .i64 x.1), (160, .int .i64 a), (20, .sl (23 * 10000 + 158) m 0 a), (4, .sl (23 * 10000 + 28) 1 0 a), (3, .int .i64 N)],
        ((23 * 10000 + 158), m, .rows 1 (tabC (fun i => .isl (OV i)) .nils a x.1)) :: ((23 * 10000 + 28), 1, .rows 1 LV) :: fm, x.2⟩)
      (fun x => x.1 ≤ a) (fun x => a - x.1) (0, m + 1) ?_ (Nat.zero_le _) ?_
    · refine Weak.wk (Weak.of (by simp -implicitDefEqProofs only [go_sem, Ins.v, Ins.row]) (fun e he => ?_) (by simp -implicitDefEqProofs only [go_sem, Ins.v, Ins.row]))
      simp only [tabC_zero, List.mem_cons] at he ⊢
      rcases he with h | h | h <;> simp only [h, eq_self, true_or, or_true]
    rintro ⟨i, m2⟩ hi ih
    simp only at hi ih ⊢
    refine Run.unf flow_Live_l6_eq (Run.go 100 ?_)
    by_cases hia : i < a
    case neg =>
      have e0 : i = a := by omega
      subst e0
      have tl2 := tabC_len (fun j => V.isl (OV j)) .nils i i
      have tv : (tabC (fun j => V.isl (OV j)) .nils i i) = (List.range i).map fun j => [.isl (OV j)] := by
        unfold tabC
        exact List.map_congr_left fun j hj => by rw [if_pos (List.mem_range.1 hj)]
      have hfz : ∀ d h, ((List.range i).map fun j => [V.isl (OV j)]).map (fun r => r.map (frz d h)) = (List.range i).map fun j => [V.isl (OV j)] := fun d h => by
        rw [List.map_map]
        refine List.map_congr_left fun j _ => ?_
        have hz := frzZ d h (((List.range N).filter (M j)).map fun r => ((r : Nat) : Int))
        rw [hOV] at hz
        have hq : frz d h (.isl (OV j)) = .isl (OV j) := by
          cases d <;> exact (by simp only [frz, V.sub, subLL_map]; exact congrArg V.isl hz)
        simp only [Function.comp, List.map_cons, List.map_nil, hq]
      rw [tv] at tl2 ⊢
      generalize ((List.range i).map fun j => [V.isl (OV j)]) = TV at *
      have tk : TV.take i = TV := List.take_of_length_le (by omega)
      have tb : Nat.ble i TV.length = true := Nat.ble_eq_true_of_le (by omega)
      simp -implicitDefEqProofs only [go_sem, Ins.v, Ins.row, Int.lt_irrefl, tk, tb, tl2]
      exact hfz _ _
    have q0 : ((i : Int) < (a : Int)) = True := eq_true (by omega)
    have q1 : ((0 : Int) ≤ (i : Int)) = True := eq_true (by omega)
    have t0 := tabC_new (f := fun j => V.isl (OV j)) (z := .nils) hia
    have tz := tabC_sz (fun j => V.isl (OV j)) .nils a i
    have tlen := tabC_len (fun j => V.isl (OV j)) .nils a i
    have tset : (tabC (fun j => V.isl (OV j)) .nils a i).set i [.isl (OV i)] = tabC (fun j => V.isl (OV j)) .nils a (i + 1) := tabC_set (g := fun j => V.isl (OV j)) (fun _ _ => rfl)
    have hlx := tl i hia
    have hgx := hfg i hia
    have hOi := hOV i
    have hOl : (OV i).length = cntF (M i) N := by rw [← hOi]; simp [cntF]
    have hOa : ∀ r, r < N → M i r = true → (OV i)[cntF (M i) r]? = some [.int .i64 (r : Nat)] := fun r hr h => by
      rw [← hOi, List.getElem?_map, List.getElem?_map, filter_at h hr]; rfl
    have fin := fun s (m3 : Nat) => ih s (i + 1, m3) (by simp only; omega) (by simp only; omega)
    clear ih
    simp only [← tset] at fin
    have hzi : ((i + 1 : Nat) : Int) = (i : Int) + 1 := by omega
    generalize tabC (fun j => V.isl (OV j)) .nils a i = T at *
    generalize OV i = R at *
    simp -implicitDefEqProofs only [go_sem, Ins.v, Ins.row, q0]
    refine Run.keep [165, 164, 161, 160, 21, 20, 4, 3] ?_
    refine Run.roundsK (fun (y : Nat × Nat × Nat) => ⟨[(165, .int .i64 y.1), (164, .int .i64 N), (161, .int .i64 i), (160, .int .i64 a), (21, .int .i64 i), (20, .sl (23 * 10000 + 158) m 0 a), (4, .sl (23 * 10000 + 28) 1 0 a), (3, .int .i64 N)],
        dcH R (23 * 10000 + 183) y.2.1 (cntF (M i) y.1) ++ ((23 * 10000 + 158), m, .rows 1 (dcT T i (23 * 10000 + 183) y.2.1 (cntF (M i) y.1))) :: ((23 * 10000 + 28), 1, .rows 1 LV) :: fm, y.2.2⟩)
      (fun y => y.1 ≤ N) (fun y => N - y.1) (0, 0, m2) ?_ (Nat.zero_le _) ?_
    · refine Weak.wk (Weak.of (by simp -implicitDefEqProofs only [go_sem, Ins.v, Ins.row]) (fun e he => ?_) (by simp -implicitDefEqProofs only [go_sem, Ins.v, Ins.row]))
      have hc0 : cntF (M i) 0 = 0 := rfl
      simp only [hc0, dcH, dcT, List.nil_append] at he ⊢
      exact he
    rintro ⟨r, st, m3⟩ hr ih2
    simp only at hr ih2 ⊢
    refine Run.unf flow_Live_l7_eq (Run.go 100 ?_)
    have hzr : ((r + 1 : Nat) : Int) = (r : Int) + 1 := by omega
    have hset : ∀ (X : List V), (T.set i X)[i]? = some X := fun X => by rw [List.getElem?_set]; simp [tlen, hia]
    by_cases hrN : r < N
    · have w0 : ((r : Int) < (N : Int)) = True := eq_true (by omega)
      have w1 : ((0 : Int) ≤ (r : Int)) = True := eq_true (by omega)
      have hbr := boolR_at (f := M i) hrN
      have hbl := boolR_len N (M i)
      cases hm : M i r with
      | false =>
        have hc := cntF_no (q := M i) hm
        have fin2 := fun s => ih2 s (r + 1, st, m3) (by simp only; omega) (by simp only; omega)
        clear ih2
        simp only [hc] at fin2
        rw [hm] at hbr
        generalize hk : cntF (M i) r = k at *
        cases k with
        | zero =>
          simp only [dcH, dcT, List.nil_append] at fin2 ⊢
          simp -implicitDefEqProofs only [go_sem, Ins.v, Ins.row, q0, q1, w0, w1, hia, l1, s1, hlx, hgx, hbq, hbr, hbl, hrN, Nat.mul_one, Option.some.injEq, forall_eq']
          refine ⟨by omega, fin2 _ (Weak.wk (Weak.of (by simp -implicitDefEqProofs only [go_sem, Ins.v, Ins.row, hzr]) (fun e he => he) (by simp -implicitDefEqProofs only [go_sem, Ins.v, Ins.row])))⟩
        | succ k =>
          simp only [dcH, dcT, List.cons_append, List.nil_append] at fin2 ⊢
          simp -implicitDefEqProofs only [go_sem, Ins.v, Ins.row, q0, q1, w0, w1, hia, l1, s1, hlx, hgx, hbq, hbr, hbl, hrN, Nat.mul_one, Option.some.injEq, forall_eq']
          refine ⟨by omega, fin2 _ (Weak.wk (Weak.of (by simp -implicitDefEqProofs only [go_sem, Ins.v, Ins.row, hzr]) (fun e he => he) (by simp -implicitDefEqProofs only [go_sem, Ins.v, Ins.row])))⟩
      | true =>
        have hc := cntF_yes (q := M i) hm
        have hRx := take_row1 (hOa r hrN hm)
        have hkl : cntF (M i) r ≤ r := by unfold cntF; exact Nat.le_trans (List.length_filter_le _ _) (by simp)
        have fin2 := fun s => ih2 s (r + 1, m3, m3 + 1) (by simp only; omega) (by simp only; omega)
        clear ih2
        simp only [hc] at fin2
        rw [hm] at hbr
        generalize hk : cntF (M i) r = k at *
        cases k with
        | zero =>
          simp only [dcH, dcT, List.nil_append, hRx, List.take_zero, List.cons_append] at fin2 ⊢
          simp -implicitDefEqProofs only [go_sem, Ins.v, Ins.row, q0, q1, w0, w1, hia, l1, s1, t0, tz, tlen, hlx, hgx, hbq, hbr, hbl, hfd, hrN, Nat.mul_one, Option.some.injEq, forall_eq']
          refine ⟨by omega, fin2 _ (Weak.wk (Weak.of (by simp -implicitDefEqProofs only [go_sem, Ins.v, Ins.row, hzr]) (fun e he => ?_) (by simp -implicitDefEqProofs only [go_sem, Ins.v, Ins.row])))⟩
          simp only [List.mem_cons] at he ⊢
          rcases he with h | h | h | h <;> simp only [h, eq_self, true_or, or_true]
        | succ k =>
          simp only [dcH, dcT, hRx, List.cons_append, List.nil_append] at fin2 ⊢
          have hRk : (R.take (k + 1)).length = k + 1 := by
            have := (List.getElem?_eq_some_iff.1 (hOa r hrN hm)).1
            rw [List.length_take]; omega
          generalize R.take (k + 1) = Rk at *
          simp -implicitDefEqProofs only [go_sem, Ins.v, Ins.row, q0, q1, w0, w1, hia, l1, s1, hset, tlen, hRk, List.length_set, List.set_set, hlx, hgx, hbq, hbr, hbl, hfd, hrN, Nat.mul_one, Option.some.injEq, forall_eq']
          refine ⟨by omega, by omega, fin2 _ (Weak.wk (Weak.of (by simp -implicitDefEqProofs only [go_sem, Ins.v, Ins.row, hzr]) (fun e he => ?_) (by simp -implicitDefEqProofs only [go_sem, Ins.v, Ins.row])))⟩
          rw [List.take_of_length_le (by omega)]
          simp only [List.mem_cons] at he ⊢
          rcases he with h | h | h | h <;> simp only [h, eq_self, true_or, or_true]
    · have e0 : r = N := by omega
      subst e0
      clear ih2
      rw [← hOl]
      have hX : ∀ e ∈ (((23 * 10000 + 28), 1, Blk.rows 1 LV) :: fm : Heap), e.1 ≠ (23 * 10000 + 183) := by
        intro e he
        simp only [List.mem_cons] at he
        rcases he with h | h
        · simp [h]
        · have := hfn e h; omega
      generalize hL : R.length = L at *
      cases L with
      | zero =>
        simp only [dcH, dcT, List.nil_append]
        have hR0 : R = [] := List.eq_nil_of_length_eq_zero hL
        subst hR0
        simp -implicitDefEqProofs only [go_sem, Ins.v, Ins.row, Int.lt_irrefl]
        refine ⟨by omega, fin _ m3 (Wk.cell0 ?_ t0)⟩
        simp -implicitDefEqProofs only [go_sem, Ins.v, Ins.row, hzi]
      | succ k =>
        simp only [dcH, dcT, List.cons_append, List.nil_append]
        rw [List.take_of_length_le (by omega)]
        simp -implicitDefEqProofs only [go_sem, Ins.v, Ins.row, Int.lt_irrefl]
        refine ⟨by omega, fin _ m3 (Wk.cell ?_ (by decide) hX (by omega))⟩
        simp -implicitDefEqProofs only [go_sem, Ins.v, Ins.row, hzi]
  | true =>
    clear hcl
    simp -implicitDefEqProofs only [go_sem, Ins.v, Ins.row, h1, h2, g5, k5]
    refine ⟨by omega, ?_⟩
    refine Run.keep [12, 11, 6, 5, 4, 3, 1] ?_
    refine Run.roundsK (fun (y : Nat × (Nat → Nat → Bool) × Bool) => ⟨[(12, .int .i64 ((a : Int) - 1 - y.1)), (11, .bool y.2.2), (6, .sl (23 * 10000 + 36) 3 0 a), (5, .sl (23 * 10000 + 32) 2 0 a), (4, .sl (23 * 10000 + 28) 1 0 a), (3, .int .i64 N), (1, .ptr (23 * 10000 + 1) 0 0 0)],
        ((23 * 10000 + 36), 3, .rows 1 DV) :: ((23 * 10000 + 32), 2, .rows 1 UV) :: ((23 * 10000 + 28), 1, .rows 1 LV) :: ((23 * 10000 + 1), 0, .rows 11 [pr]) :: famH (fun i => boolR N (y.2.1 i)) S a, m⟩)
      (fun y => y.1 ≤ a ∧ SoundM U (fun a => nextL p.code a) D y.2.1 ∧ (y.2.2 = false → y.2.1 = M ∧ ∀ i r, a ≤ i + y.1 → i < a → r < N → ClosedM U (fun a => nextL p.code a) D M i r) ∧ (y.2.2 = true → unM a N y.2.1 < unM a N M)) (fun y => a - y.1) (0, M, false) ?_ ⟨Nat.zero_le _, hS0, fun _ => ⟨rfl, fun i r h1 h2 => absurd h1 (by simp only; omega)⟩, fun h => absurd h (by simp)⟩ ?_
    · refine Weak.wk (Weak.of (by simp -implicitDefEqProofs only [go_sem, Ins.v, Ins.row, Int.sub_zero]) (fun e he => he) (by simp -implicitDefEqProofs only [go_sem, Ins.v, Ins.row]))
    rintro ⟨j, M1, more⟩ ⟨hj, hS1, hc1, hd1⟩ ih2
    simp only at hj hS1 hc1 hd1 ih2 ⊢
    refine Run.unf flow_Live_l3_eq (Run.go 100 ?_)
    by_cases hja : j < a
    case neg =>
      have e0 : j = a := by omega
      subst e0
      have q0 : ((0 : Int) ≤ (j : Int) - 1 - (j : Int)) = False := eq_false (by omega)
      simp -implicitDefEqProofs only [go_sem, Ins.v, Ins.row, q0, ge_iff_le]
      refine ih _ (M1, more) ⟨hS1, fun hm i r hi hr => ?_⟩ ?_ (Weak.wk (Weak.of (by simp -implicitDefEqProofs only [go_sem, Ins.v, Ins.row]) (fun e he => he) (by simp -implicitDefEqProofs only [go_sem, Ins.v, Ins.row])))
      · simp only at hm
        obtain ⟨rfl, hcc⟩ := hc1 hm
        exact hcc i r (by omega) hi hr
      · cases more with
        | true => have := hd1 rfl; simp; omega
        | false => obtain ⟨rfl, _⟩ := hc1 rfl; simp
    obtain ⟨at_, hat⟩ : ∃ at_ : Nat, at_ = a - 1 - j := ⟨_, rfl⟩
    have ea : (a : Int) - 1 - (j : Int) = (at_ : Int) := by omega
    have ea2 : (a : Int) - 1 - ((j + 1 : Nat) : Int) = (at_ : Int) - 1 := by omega
    have hata : at_ < a := by omega
    have q0 : ((0 : Int) ≤ (at_ : Int)) = True := eq_true (by omega)
    have q1 : ((at_ : Int) < (a : Int)) = True := eq_true (by omega)
    have xu := tu at_ hata
    have xd := td at_ hata
    have xl := tl at_ hata
    have hni := hnin at_
    rw [ea]
    simp -implicitDefEqProofs only [go_sem, Ins.v, Ins.row, q0, q1, hata, xu, xd, l2, l3, s2, s3, h1, h2, ge_iff_le, Option.some.injEq, forall_eq']
    refine CallS.pureF (hnx at_) (by simp -implicitDefEqProofs only [go_sem, Ins.v, Ins.row, hsub]) ?_
    have hnl2 := nextL_len2 p.code at_
    have hcl0 : ∀ {MM : Nat → Nat → Bool} {r : Nat}, (U at_ r || anyK D MM (nextL p.code at_) at_ r (nextL p.code at_).length) = true → SoundM U (fun a => nextL p.code a) D MM → LiveR U (fun a => nextL p.code a) D at_ r := fun h hs => live_any (Nx := fun a => nextL p.code a) hs (fun x hx => (hni x hx).1) h
    have hcl1 : ∀ {r : Nat}, ((U at_ r || anyK D M (nextL p.code at_) at_ r (nextL p.code at_).length) = true → M at_ r = true) → ClosedM U (fun a => nextL p.code a) D M at_ r := fun h => closed_any (Nx := fun a => nextL p.code a) h
    have hDRl := hDR at_ (nextL p.code at_)
    generalize defR p at_ (nextL p.code at_) = DRl at *
    generalize hnle : nextL p.code at_ = nl at *
    have hnls : ∀ (k : Nat) (x : Int), nl[k]? = some x → (nl.map zrw)[k]? = some [.int .i64 x] := fun k x h => zrw_at h
    have hnll : (nl.map zrw).length = nl.length := List.length_map ..
    have hnlz := rowszZ' nl
    have hDl : DRl.length = nl.length := by rw [hDRl]; simp
    have hDz : rowsz DRl 1 = True := by rw [hDRl]; exact eq_true fun r hr => by obtain ⟨y, _, rfl⟩ := List.mem_map.1 hr; rfl
    have hDa : ∀ (k : Nat) (x : Int), nl[k]? = some x → DRl[k]? = some [.iptr [rowF (D at_ x)] 0 0] := fun k x h => by rw [hDRl, List.getElem?_map, h]; rfl
    generalize nl.map zrw = nls at *
    simp -implicitDefEqProofs only [go_sem, Ins.v, Ins.row]
    refine Run.keep [100, 99, 15, 14, 13, 12, 11, 6, 5, 4, 3, 1] ?_
    refine Run.roundsK (fun (y : Nat × (Nat → Nat → Bool) × Bool) => ⟨[(100, .int .i64 y.1), (99, .int .i64 N), (15, .isl nls), (14, .isl DRl), (13, .iptr [rowF (U at_)] 0 0), (12, .int .i64 at_), (11, .bool y.2.2), (6, .sl (23 * 10000 + 36) 3 0 a), (5, .sl (23 * 10000 + 32) 2 0 a), (4, .sl (23 * 10000 + 28) 1 0 a), (3, .int .i64 N), (1, .ptr (23 * 10000 + 1) 0 0 0)],
        ((23 * 10000 + 36), 3, .rows 1 DV) :: ((23 * 10000 + 32), 2, .rows 1 UV) :: ((23 * 10000 + 28), 1, .rows 1 LV) :: ((23 * 10000 + 1), 0, .rows 11 [pr]) :: famH (fun i => boolR N (y.2.1 i)) S a, m⟩)
      (fun y => y.1 ≤ N ∧ SoundM U (fun a => nextL p.code a) D y.2.1 ∧ (y.2.2 = false → y.2.1 = M ∧ (∀ i r, a ≤ i + j → i < a → r < N → ClosedM U (fun a => nextL p.code a) D M i r) ∧ ∀ r, r < y.1 → ClosedM U (fun a => nextL p.code a) D M at_ r) ∧ (y.2.2 = true → unM a N y.2.1 < unM a N M)) (fun y => N - y.1) (0, M1, more) ?_ ⟨Nat.zero_le _, hS1, fun h => ⟨(hc1 h).1, (hc1 h).2, fun r hr => absurd hr (Nat.not_lt_zero r)⟩, hd1⟩ ?_
    · refine Weak.wk (Weak.of (by simp -implicitDefEqProofs only [go_sem, Ins.v, Ins.row]) (fun e he => he) (by simp -implicitDefEqProofs only [go_sem, Ins.v, Ins.row]))
    rintro ⟨r, M2, mo⟩ ⟨hr, hS2, hc2, hd2⟩ ih3
    simp only at hr hS2 hc2 hd2 ih3 ⊢
    refine Run.unf flow_Live_l4_eq (Run.go 100 ?_)
    by_cases hrN : r < N
    case neg =>
      have e0 : r = N := by omega
      subst e0
      simp -implicitDefEqProofs only [go_sem, Ins.v, Ins.row, Int.lt_irrefl]
      refine ⟨by omega, ih2 _ (j + 1, M2, mo) ⟨by simp only; omega, hS2, fun h => ⟨(hc2 h).1, fun i r hi hia hr => ?_⟩, hd2⟩ (by simp only; omega) (Weak.wk (Weak.of (by simp -implicitDefEqProofs only [go_sem, Ins.v, Ins.row, ea2]) (fun e he => he) (by simp -implicitDefEqProofs only [go_sem, Ins.v, Ins.row])))⟩
      simp only at hi
      by_cases ci : a ≤ i + j
      · exact (hc2 h).2.1 i r ci hia hr
      · obtain rfl : i = at_ := by omega
        exact (hc2 h).2.2 r hr
    have w0 : ((r : Int) < (N : Int)) = True := eq_true (by omega)
    have w1 : ((0 : Int) ≤ (r : Int)) = True := eq_true (by omega)
    have w2 : ((r : Int) < 4096) = True := eq_true (by omega)
    have hzr : ((r + 1 : Nat) : Int) = (r : Int) + 1 := by omega
    have hur := rowF_at (f := U at_) (x := r) (by omega)
    have hfd := fun (b : Nat) hb => famH_del (F := fun i => boolR N (M2 i)) (S := S) (m := a) (b := b) hb
    have hfg := fun (i : Nat) hi => famH_get (F := fun i => boolR N (M2 i)) (S := S) (m := a) (i := i) hi
    have hputm := fun X e => famH_put (F := fun i => boolR N (M2 i)) (S := S) (m := a) (i := at_) (X := X) (e := e)
    generalize hfm2 : famH (fun i => boolR N (M2 i)) S a = fm2 at *
    simp -implicitDefEqProofs only [go_sem, Ins.v, Ins.row, w0, w1, w2, hur, hnll, Nat.mul_one, Option.some.injEq, forall_eq']
    refine Run.keep [110, 109, 108, 100, 99, 17, 16, 15, 14, 13, 12, 11, 6, 5, 4, 3, 1] ?_
    refine Run.roundsK (fun (k : Nat) => ⟨[(110, .int .i64 k), (109, .int .i64 nl.length), (108, .isl nls), (100, .int .i64 r), (99, .int .i64 N), (17, .bool (U at_ r || anyK D M2 nl at_ r k)), (16, .int .i64 r), (15, .isl nls), (14, .isl DRl), (13, .iptr [rowF (U at_)] 0 0), (12, .int .i64 at_), (11, .bool mo), (6, .sl (23 * 10000 + 36) 3 0 a), (5, .sl (23 * 10000 + 32) 2 0 a), (4, .sl (23 * 10000 + 28) 1 0 a), (3, .int .i64 N), (1, .ptr (23 * 10000 + 1) 0 0 0)],
        ((23 * 10000 + 36), 3, .rows 1 DV) :: ((23 * 10000 + 32), 2, .rows 1 UV) :: ((23 * 10000 + 28), 1, .rows 1 LV) :: ((23 * 10000 + 1), 0, .rows 11 [pr]) :: fm2, m⟩)
      (fun k => k ≤ nl.length) (fun k => nl.length - k) 0 ?_ (Nat.zero_le _) ?_
    · refine Weak.wk (Weak.of (by simp -implicitDefEqProofs only [go_sem, Ins.v, Ins.row, anyK_zero, Bool.or_false]) (fun e he => he) (by simp -implicitDefEqProofs only [go_sem, Ins.v, Ins.row]))
    rintro k hk ih4
    refine Run.unf flow_Live_l5_eq (Run.go 100 ?_)
    have hzk : ((k + 1 : Nat) : Int) = (k : Int) + 1 := by omega
    by_cases hlk : k < nl.length
    · have v0 : ((k : Int) < (nl.length : Int)) = True := eq_true (by omega)
      have v1 : ((0 : Int) ≤ (k : Int)) = True := eq_true (by omega)
      obtain ⟨x, hx⟩ : ∃ x, nl[k]? = some x := ⟨nl[k], by simp [hlk]⟩
      have hxr := hnls k x hx
      have hxi := hni x (List.mem_of_getElem? hx)
      obtain ⟨xx, rfl⟩ : ∃ xx : Nat, x = xx := ⟨x.toNat, by omega⟩
      have x0 : ((0 : Int) ≤ (xx : Int)) = True := eq_true (by omega)
      have x1 : ((xx : Int) < (a : Int)) = True := eq_true (by omega)
      have x2 : (xx < a) = True := eq_true (by omega)
      have hdx := hDa k xx hx
      have hdr := rowF_at (f := D at_ xx) (x := r) (by omega)
      have hlx := tl xx (by omega)
      have hgx := hfg xx (by omega)
      have hbr := boolR_at (f := M2 xx) hrN
      have hbl := boolR_len N (M2 xx)
      have hany := anyK_succ (D := D) (M := M2) (a := at_) (r := r) hx
      rw [show ((xx : Int)).toNat = xx by omega] at hany
      have fin := fun s => ih4 s (k + 1) (by omega) (by omega)
      clear ih4
      rw [hany, ← Bool.or_assoc] at fin
      generalize (U at_ r || anyK D M2 nl at_ r k) = is at *
      generalize D at_ xx r = dv at *
      generalize M2 xx r = mv at *
      cases is with
      | true =>
        simp -implicitDefEqProofs only [go_sem, Ins.v, Ins.row, v0, v1, hnll, hnlz, hxr, hlk, Option.some.injEq, forall_eq']
        refine ⟨by omega, fin _ (Weak.wk (Weak.of (by simp -implicitDefEqProofs only [go_sem, Ins.v, Ins.row, hzk, Bool.true_or]) (fun e he => he) (by simp -implicitDefEqProofs only [go_sem, Ins.v, Ins.row])))⟩
      | false =>
        cases dv with
        | true =>
          simp -implicitDefEqProofs only [go_sem, Ins.v, Ins.row, v0, v1, w1, w2, hnll, hnlz, hxr, hlk, hDl, hDz, hdx, hdr, Nat.mul_one, Option.some.injEq, forall_eq']
          refine ⟨by omega, fin _ (Weak.wk (Weak.of (by simp -implicitDefEqProofs only [go_sem, Ins.v, Ins.row, hzk, Bool.not_true, Bool.false_and, Bool.or_false]) (fun e he => he) (by simp -implicitDefEqProofs only [go_sem, Ins.v, Ins.row])))⟩
        | false =>
          simp -implicitDefEqProofs only [go_sem, Ins.v, Ins.row, v0, v1, w0, w1, w2, x0, x1, x2, hnll, hnlz, hxr, hlk, hDl, hDz, hdx, hdr, l1, s1, hlx, hgx, hbq, hbr, hbl, hrN, Nat.mul_one, Option.some.injEq, forall_eq']
          refine ⟨by omega, fin _ (Weak.wk (Weak.of (by simp -implicitDefEqProofs only [go_sem, Ins.v, Ins.row, hzk, Bool.not_false, Bool.true_and, Bool.false_or]) (fun e he => he) (by simp -implicitDefEqProofs only [go_sem, Ins.v, Ins.row])))⟩
    · have e0 : k = nl.length := by omega
      subst e0
      clear ih4 hlk hk
      have hgx := hfg at_ hata
      have hbr := boolR_at (f := M2 at_) hrN
      have hbl := boolR_len N (M2 at_)
      have hlive : (U at_ r || anyK D M2 nl at_ r nl.length) = true → LiveR U (fun a => nextL p.code a) D at_ r := fun h => hcl0 h hS2
      have hclos : (U at_ r || anyK D M2 nl at_ r nl.length) = false ∨ M2 at_ r = true → mo = false → ClosedM U (fun a => nextL p.code a) D M at_ r := fun h hm => by
        obtain ⟨rfl, _⟩ := hc2 hm
        exact hcl1 fun h2 => h.elim (fun h3 => by rw [h2] at h3; cases h3) fun h3 => h3
      have same : (U at_ r || anyK D M2 nl at_ r nl.length) = false ∨ M2 at_ r = true → ∀ s, _ → _ := fun h s => ih3 s (r + 1, M2, mo) ⟨by simp only; omega, hS2, fun hm => ⟨(hc2 hm).1, (hc2 hm).2.1, fun r' hr' => by
        by_cases c : r' = r
        · subst c; exact hclos h hm
        · exact (hc2 hm).2.2 r' (by simp only at hr'; omega)⟩, hd2⟩ (by simp only; omega)
      have mark : (U at_ r || anyK D M2 nl at_ r nl.length) = true → M2 at_ r = false → ∀ s, _ → _ := fun h hm s => ih3 s (r + 1, markM M2 at_ r, true) ⟨by simp only; omega, sound_mark hS2 (hlive h), fun hx => absurd hx (by simp), fun _ => by
        have h1 := unM_mark (n := a) (N := N) hata hrN hm
        simp only
        cases mo with
        | true => have := hd2 rfl; omega
        | false => obtain ⟨rfl, _⟩ := hc2 rfl; exact h1⟩ (by simp only; omega)
      clear ih3 hclos hlive hcl0 hcl1
      generalize (U at_ r || anyK D M2 nl at_ r nl.length) = is at *
      generalize hmv : M2 at_ r = mv at *
      cases is with
      | false =>
        have same := same (.inl rfl)
        clear mark
        simp -implicitDefEqProofs only [go_sem, Ins.v, Ins.row, Int.lt_irrefl]
        refine ⟨by omega, same _ (Weak.wk (Weak.of (by simp -implicitDefEqProofs only [go_sem, Ins.v, Ins.row, hzr]) (fun e he => by rw [← hfm2] at *; exact he) (by simp -implicitDefEqProofs only [go_sem, Ins.v, Ins.row])))⟩
      | true =>
        cases mv with
        | true =>
          have same := same (.inr rfl)
          clear mark
          simp -implicitDefEqProofs only [go_sem, Ins.v, Ins.row, Int.lt_irrefl, q0, q1, w0, w1, hata, l1, s1, xl, hgx, hbq, hbr, hbl, hrN, Nat.mul_one, Option.some.injEq, forall_eq']
          refine ⟨by omega, same _ (Weak.wk (Weak.of (by simp -implicitDefEqProofs only [go_sem, Ins.v, Ins.row, hzr]) (fun e he => by rw [← hfm2] at *; exact he) (by simp -implicitDefEqProofs only [go_sem, Ins.v, Ins.row])))⟩
        | false =>
          have mark := mark rfl rfl
          clear same
          simp -implicitDefEqProofs only [go_sem, Ins.v, Ins.row, Int.lt_irrefl, q0, q1, w0, w1, hata, l1, s1, xl, hgx, hbq, hbr, hbl, hrN, Nat.mul_one, Option.some.injEq, forall_eq']
          refine ⟨by omega, mark _ (Weak.wk (Weak.of (by simp -implicitDefEqProofs only [go_sem, Ins.v, Ins.row, hzr]) (fun e he => ?_) (by simp -implicitDefEqProofs only [go_sem, Ins.v, Ins.row])))⟩
          simp only [fam_mark, List.mem_cons] at he ⊢
          rcases he with h | h | h | h | h
          · simp only [h, eq_self, true_or, or_true]
          · simp only [h, eq_self, true_or, or_true]
          · simp only [h, eq_self, true_or, or_true]
          · simp only [h, eq_self, true_or, or_true]
          · rcases hputm _ _ h with h | h
            · simp only [h, eq_self, true_or, or_true]
            · simp only [h, or_true]
end Go.Proofs.YtkibfcnieamdoaaGreatDoor
