/-
  What the reference's 'Live' answers: the least solution, too. No condition.
-/
import Derived.Test.YtdnpnbenahpllaaDoorRLv1
import Derived.Test.YtdnpnbenahpllaaDoorFlowS
set_option linter.unusedVariables false
set_option linter.unusedSimpArgs false
set_option maxRecDepth 100000
set_option maxHeartbeats 0
namespace Go.Proofs.YtdnpnbenahpllaaDoor
open Go.Abs
attribute [local irreducible] CallS Run
-- EV: Ins.v, Ins.row

/-- A list that is extended. -/
def rowsN (f : Nat → V) (a : Nat) : List (List V) := (List.range a).map fun i => [f i]
theorem rowsN_len (f : Nat → V) (a : Nat) : (rowsN f a).length = a := by simp [rowsN]
theorem rowsN_at {f : Nat → V} {a i : Nat} (h : i < a) : (rowsN f a)[i]? = some [f i] := by simp [rowsN, h]
theorem rowsN_succ (f : Nat → V) (a : Nat) : rowsN f (a + 1) = rowsN f a ++ [[f a]] := by simp [rowsN, List.range_succ]
theorem rowsN_sz (f : Nat → V) (a : Nat) : rowsz (rowsN f a) 1 = True := eq_true fun r hr => by obtain ⟨y, _, rfl⟩ := List.mem_map.1 hr; rfl
theorem rowsN_congr {f g : Nat → V} {a : Nat} (h : ∀ i, i < a → f i = g i) : rowsN f a = rowsN g a := List.map_congr_left fun i hi => by rw [h i (List.mem_range.1 hi)]
theorem snoc_set {T : List (List V)} {x y : List V} : T ++ [x] = (T ++ [y]).set T.length x := by simp
theorem Wk.cellA {b st b2 st2 k n : Nat} {R T : List (List V)} {X : Heap} {sl sl' : List (Nat × V)} (hS : slotsW sl sl') (hb : b2 ≠ b) (hX : ∀ e ∈ X, e.1 ≠ b) (hk : k = R.length) :
    Wk ⟨sl, (b, st, .rows 1 R) :: (b2, st2, .rows 1 (T ++ [[.sl b st 0 k]])) :: X, n⟩ ⟨sl', (b2, st2, .rows 1 (T ++ [[.isl R]])) :: X, n⟩ := by
  have := Wk.cell (b := b) (st := st) (b2 := b2) (st2 := st2) (a := T.length) (k := k) (n := n) (R := R) (T := T ++ [[.nils]]) (X := X) hS hb hX hk
  rwa [← snoc_set, ← snoc_set] at this
theorem SameB.snoc {T : List (List V)} {b b2 st k : Nat} : SameB (.rows 1 (T ++ [[.sl b st 0 k]])) (.rows 1 (T ++ [[.sl b2 st 0 k]])) := by
  have := SameB.set (T := T ++ [[.nils]]) (a := T.length) (b := b) (b2 := b2) (st := st) (k := k)
  rwa [← snoc_set, ← snoc_set] at this
theorem anyK_mono {D : Nat → Int → Nat → Bool} {M : Nat → Nat → Bool} {nl : List Int} {a r k : Nat} (h : anyK D M nl a r k = true) : anyK D M nl a r nl.length = true := by
  unfold anyK at *
  rw [List.take_length]
  obtain ⟨x, hx, hm⟩ := List.any_eq_true.1 h
  exact List.any_eq_true.2 ⟨x, List.mem_of_mem_take hx, hm⟩

def rUseV (p : Pro) (N i : Nat) : V := .isl (boolR N (useP p i))
def rDefR (p : Pro) (N a : Nat) (l : List Int) : List (List V) := l.map fun x => [.isl (boolR N (defP p a x))]
def rDefV (p : Pro) (N i : Nat) : V := .isl (rDefR p N i (nextL p.code i))
theorem rDefR_len (p : Pro) (N a : Nat) (l : List Int) : (rDefR p N a l).length = l.length := by simp [rDefR]
theorem rDefR_at {p : Pro} {N a k : Nat} {l : List Int} {x : Int} (h : l[k]? = some x) : (rDefR p N a l)[k]? = some [.isl (boolR N (defP p a x))] := by simp [rDefR, h]

theorem rlive_pure (p : Pro) (hc : p.code.length ≤ 10000) (hsub : p.row.map (V.sub lost) = p.row) (hup : ∀ q ∈ p.protos, q.ups.length ≤ 100000) : Pure Tryd.prog 10 [.agg p.row] (liveV p) := by
  obtain ⟨h1, h2⟩ := pro_row11 p
  have hz := registers_pure p
  have hnx : ∀ a : Int, Pure Tryd.prog 25 [.agg p.row, .int .i64 a] (.isl ((nextL p.code a).map zrw)) := fun a => by rw [p.row_eq]; exact rnext_pure p.code a (by omega) _ _ _ _ _ _ _ _ _ _
  have hus := fun a (ha : a < p.code.length) => ruses_pure p hsub hup a ha hc
  have hdf := fun a (x : Int) (ha : a < p.code.length) => rdefs_pure p hsub a ha hc x
  have g5 : p.row[5]? = some (.isl (p.code.map Ins.row)) := by rw [p.row_eq]; rfl
  have k5 : (p.code.map Ins.row).length = p.code.length := List.length_map ..
  have hN := regN_le p.regs
  generalize hNe : regN p.regs = N at *
  generalize hpr : p.row = pr at *
  generalize p.code.map Ins.row = rcode at *
  refine Pure.of 1 (CallS.enter scriptingref35_Live_ok (Nat.le_of_ble_eq_true rfl) (Run.go 100 ?_))
  simp -implicitDefEqProofs only [go_sem, Ins.v, Ins.row, initSl, h1, h2]
  refine CallS.pureF hz (by simp -implicitDefEqProofs only [go_sem, Ins.v, Ins.row, hsub]) ?_
  simp -implicitDefEqProofs only [go_sem, Ins.v, Ins.row]
  refine Run.keep [7, 6, 5, 4, 3, 1] ?_
  generalize hnn : p.code.length = n at *
  refine Run.roundsK (fun (x : Nat × (Nat → Nat) × Nat × Nat × Nat × Nat) => ⟨[(7, .int .i64 x.1), (6, .sl (10 * 10000 + 25) x.2.2.2.2.1 0 x.1), (5, .sl (10 * 10000 + 24) x.2.2.2.1 0 x.1), (4, .sl (10 * 10000 + 23) x.2.2.1 0 x.1), (3, .int .i64 N), (1, .ptr (10 * 10000 + 1) 0 0 0)],
      ((10 * 10000 + 25), x.2.2.2.2.1, .rows 1 (rowsN (livV x.2.1 N) x.1)) :: ((10 * 10000 + 24), x.2.2.2.1, .rows 1 (rowsN (rDefV p N) x.1)) :: ((10 * 10000 + 23), x.2.2.1, .rows 1 (rowsN (rUseV p N) x.1)) :: ((10 * 10000 + 1), 0, .rows 11 [pr]) :: famH (fun _ => boolR N fun _ => false) x.2.1 x.1, x.2.2.2.2.2⟩)
    (fun x => x.1 ≤ n) (fun x => n - x.1) (0, fun _ => 0, 1, 2, 3, 4) (Weak.wk (by simp -implicitDefEqProofs only [go_sem, Ins.v, Ins.row, rowsN, List.range_zero, List.map_nil, famH_zero])) (Nat.zero_le _) ?_
  rintro ⟨a, S, su, sd, sv, m⟩ ha ih
  simp only at ha ih ⊢
  have hfd := fun (b : Nat) hb => famH_del (F := fun _ => boolR N fun _ => false) (S := S) (m := a) (b := b) hb
  refine Run.unf scriptingref35_Live_l0_eq (Run.go 100 ?_)
  by_cases hlt : a < n
  · have q0 : ((a : Int) < (n : Int)) = True := eq_true (by omega)
    have q1 : ((0 : Int) ≤ (a : Int)) = True := eq_true (by omega)
    have husa := hus a hlt
    have l1 := rowsN_len (livV S N) a
    have l2 := rowsN_len (rDefV p N) a
    have l3 := rowsN_len (rUseV p N) a
    generalize hT1 : rowsN (livV S N) a = T1 at *
    generalize hT2 : rowsN (rDefV p N) a = T2 at *
    generalize hT3 : rowsN (rUseV p N) a = T3 at *
    generalize hfm : famH (fun _ => boolR N fun _ => false) S a = fm at *
    simp -implicitDefEqProofs only [go_sem, Ins.v, Ins.row, q0, h1, h2, g5, k5]
    refine CallS.pureF husa (by simp -implicitDefEqProofs only [go_sem, Ins.v, Ins.row, hsub]) ?_
    have tk1 : T1.take a = T1 := List.take_of_length_le (by omega)
    have tk2 : T2.take a = T2 := List.take_of_length_le (by omega)
    have tk3 : T3.take a = T3 := List.take_of_length_le (by omega)
    simp -implicitDefEqProofs only [go_sem, Ins.v, Ins.row, h1, h2, l3, tk3, hfd]
    refine ⟨by omega, ?_⟩
    refine CallS.pureF (hnx a) (by simp -implicitDefEqProofs only [go_sem, Ins.v, Ins.row, hsub]) ?_
    have hnin := fun x (h : x ∈ nextL p.code a) => nextL_in h
    have hnl2 := nextL_len2 p.code a
    generalize hnle : nextL p.code a = nl at *
    have hnls : ∀ (k : Nat) (x : Int), nl[k]? = some x → (nl.map zrw)[k]? = some [.int .i64 x] := fun k x h => zrw_at h
    have hnll : (nl.map zrw).length = nl.length := List.length_map ..
    have hnlz := rowszZ' nl
    generalize nl.map zrw = nls at *
    simp -implicitDefEqProofs only [go_sem, Ins.v, Ins.row, hfd]
    refine Run.keep [10, 9, 8, 7, 6, 5, 4, 3, 1] ?_
    have hRl := rDefR_len p N a nl
    have hRa := fun k x (h : nl[k]? = some x) => rDefR_at (p := p) (N := N) (a := a) h
    generalize hRR : rDefR p N a nl = RR at *
    refine Run.roundsK (fun (y : Nat × Nat × Nat) => ⟨[(10, .int .i64 y.1), (9, .sl (10 * 10000 + 43) y.2.1 0 y.1), (8, .isl nls), (7, .int .i64 a), (6, .sl (10 * 10000 + 25) sv 0 a), (5, .sl (10 * 10000 + 24) sd 0 a), (4, .sl (10 * 10000 + 23) m 0 (a + 1)), (3, .int .i64 N), (1, .ptr (10 * 10000 + 1) 0 0 0)],
        ((10 * 10000 + 43), y.2.1, .rows 1 (RR.take y.1)) :: ((10 * 10000 + 23), m, .rows 1 (T3 ++ [[.isl (boolR N (useP p a))]])) :: ((10 * 10000 + 25), sv, .rows 1 T1) :: ((10 * 10000 + 24), sd, .rows 1 T2) :: ((10 * 10000 + 1), 0, .rows 11 [pr]) :: fm, y.2.2⟩)
      (fun y => y.1 ≤ nl.length) (fun y => nl.length - y.1) (0, m + 1, m + 1 + 1) ?_ (Nat.zero_le _) ?_
    · refine Weak.wk (Weak.of (by simp -implicitDefEqProofs only [go_sem, Ins.v, Ins.row]) (fun e he => he) (by simp -implicitDefEqProofs only [go_sem, Ins.v, Ins.row]))
    rintro ⟨k, st, m2⟩ hk ih2
    simp only at hk ih2 ⊢
    refine Run.unf scriptingref35_Live_l1_eq (Run.go 100 ?_)
    have hzk : ((k + 1 : Nat) : Int) = (k : Int) + 1 := by omega
    have hRk : (RR.take k).length = k := by rw [List.length_take]; omega
    by_cases hlk : k < nl.length
    · have w0 : ((k : Int) < (nl.length : Int)) = True := eq_true (by omega)
      have w1 : ((0 : Int) ≤ (k : Int)) = True := eq_true (by omega)
      obtain ⟨x, hx⟩ : ∃ x, nl[k]? = some x := ⟨nl[k], by simp [hlk]⟩
      have hxr := hnls k x hx
      have hdx := hdf a x hlt
      have hRx := take_row1 (hRa k x hx)
      have fin := fun s => ih2 s (k + 1, m2, m2 + 1) (by simp only; omega) (by simp only; omega)
      clear ih2
      simp only [hRx] at fin
      generalize RR.take k = Rk at *
      have tkk : Rk.take k = Rk := List.take_of_length_le (by omega)
      simp -implicitDefEqProofs only [go_sem, Ins.v, Ins.row, w0, w1, hnll, hnlz, hxr, hlk, h1, h2, hfd, Option.some.injEq, forall_eq']
      refine CallS.pureF hdx (by simp -implicitDefEqProofs only [go_sem, Ins.v, Ins.row, hsub]) ?_
      simp -implicitDefEqProofs only [go_sem, Ins.v, Ins.row, hRk, tkk, hfd]
      refine ⟨by omega, by omega, fin _ (Weak.wk (Weak.of (by simp -implicitDefEqProofs only [go_sem, Ins.v, Ins.row, hzk]) (fun e he => ?_) (by simp -implicitDefEqProofs only [go_sem, Ins.v, Ins.row])))⟩
      simp only [List.mem_cons] at he ⊢
      rcases he with h | h | h | h | h | h <;> simp only [h, eq_self, true_or, or_true]
    · have e : k = nl.length := by omega
      subst e
      clear ih2
      rw [List.take_of_length_le (by omega)]
      have hza : ((a + 1 : Nat) : Int) = (a : Int) + 1 := by omega
      have fin := fun s (S' : Nat → Nat) (u v w m3 : Nat) => ih s (a + 1, S', u, v, w, m3) (by simp only; omega) (by simp only; omega)
      clear ih
      have e3 : rowsN (rUseV p N) (a + 1) = T3 ++ [[.isl (boolR N (useP p a))]] := by rw [rowsN_succ, hT3]; rfl
      have e2 : rowsN (rDefV p N) (a + 1) = T2 ++ [[.isl RR]] := by rw [rowsN_succ, hT2, ← hRR, ← hnle]; rfl
      have e1 : ∀ s, rowsN (livV (fun i => if i = a then s else S i) N) (a + 1) = T1 ++ [[.sl (1000000000000 + a) s 0 N]] := fun s => by
        rw [rowsN_succ, ← hT1]
        congr 1
        · exact rowsN_congr fun i hi => by simp only [livV]; rw [if_neg (by omega)]
        · simp [livV]
      simp only [e3, e2, hza] at fin
      simp -implicitDefEqProofs only [go_sem, Ins.v, Ins.row, Int.lt_irrefl, hnll, l1, l2, tk1, tk2, hfd]
      have fin := fun s => fin s (fun i => if i = a then m2 + 1 else S i) m m2 (m2 + 1 + 1) (m2 + 1 + 1 + 1)
      simp only [e1] at fin
      have hX : ∀ e ∈ (((10 * 10000 + 25), m2 + 1 + 1, Blk.rows 1 (T1 ++ [[.sl (10 * 10000 + 67) (m2 + 1) 0 N]])) :: ((10 * 10000 + 67), m2 + 1, .rows 1 (List.replicate N [.bool false])) :: ((10 * 10000 + 23), m, .rows 1 (T3 ++ [[.isl (boolR N (useP p a))]])) :: ((10 * 10000 + 1), 0, .rows 11 [pr]) :: fm : Heap), e.1 ≠ (10 * 10000 + 43) := by
        intro e he
        simp only [List.mem_cons] at he
        rcases he with h | h | h | h | h
        · simp [h]
        · simp [h]
        · simp [h]
        · simp [h]
        · rw [← hfm] at h
          obtain ⟨j, _, rfl⟩ := famH_mem.1 h
          simp only [famE]; omega
      refine ⟨by omega, by omega, by omega, by omega, by omega, fin _ (Wk.trans (Weak.wk (s' := ⟨[(7, .int .i64 ((a : Int) + 1)), (6, .sl (10 * 10000 + 25) (m2 + 1 + 1) 0 (a + 1)), (5, .sl (10 * 10000 + 24) m2 0 (a + 1)), (4, .sl (10 * 10000 + 23) m 0 (a + 1)), (3, .int .i64 N), (1, .ptr (10 * 10000 + 1) 0 0 0)], ((10 * 10000 + 43), st, .rows 1 RR) :: ((10 * 10000 + 24), m2, .rows 1 (T2 ++ [[.sl (10 * 10000 + 43) st 0 nl.length]])) :: ((10 * 10000 + 25), m2 + 1 + 1, Blk.rows 1 (T1 ++ [[.sl (10 * 10000 + 67) (m2 + 1) 0 N]])) :: ((10 * 10000 + 67), m2 + 1, .rows 1 (List.replicate N [.bool false])) :: ((10 * 10000 + 23), m, .rows 1 (T3 ++ [[.isl (boolR N (useP p a))]])) :: ((10 * 10000 + 1), 0, .rows 11 [pr]) :: fm, m2 + 1 + 1 + 1⟩) (Weak.of (by simp -implicitDefEqProofs only [go_sem, Ins.v, Ins.row]) (fun e he => ?_) (by simp -implicitDefEqProofs only [go_sem, Ins.v, Ins.row]))) (Wk.trans (Wk.cellA (sl' := [(7, .int .i64 ((a : Int) + 1)), (6, .sl (10 * 10000 + 25) (m2 + 1 + 1) 0 (a + 1)), (5, .sl (10 * 10000 + 24) m2 0 (a + 1)), (4, .sl (10 * 10000 + 23) m 0 (a + 1)), (3, .int .i64 N), (1, .ptr (10 * 10000 + 1) 0 0 0)]) (by simp -implicitDefEqProofs only [go_sem, Ins.v, Ins.row]) (by decide) hX (by omega)) (Wk.turn (fun b => if b = (10 * 10000 + 67) then 1000000000000 + a else b) (SameS.of (fun p hp => ?_)) (.at 1 rfl rfl SameB.snoc (.at 0 rfl rfl (.refl _) (.at 3 rfl rfl (.refl _) (.at 4 rfl rfl (.refl _) (famH_join (b := (10 * 10000 + 67)) (boolR_none N) ?_ ?_ ?_ ?_))))))))⟩
      · simp only [List.mem_cons] at he ⊢
        rcases he with h | h | h | h | h | h | h <;> simp only [h, eq_self, true_or, or_true]
      · exact slotsW_iff.1 (show slotsW [(7, .int .i64 ((a : Int) + 1)), (6, .sl (10 * 10000 + 25) (m2 + 1 + 1) 0 (a + 1)), (5, .sl (10 * 10000 + 24) m2 0 (a + 1)), (4, .sl (10 * 10000 + 23) m 0 (a + 1)), (3, .int .i64 N), (1, .ptr (10 * 10000 + 1) 0 0 0)] [(7, .int .i64 ((a : Int) + 1)), (6, .sl (10 * 10000 + 25) (m2 + 1 + 1) 0 (a + 1)), (5, .sl (10 * 10000 + 24) m2 0 (a + 1)), (4, .sl (10 * 10000 + 23) m 0 (a + 1)), (3, .int .i64 N), (1, .ptr (10 * 10000 + 1) 0 0 0)] by simp -implicitDefEqProofs only [go_sem, Ins.v, Ins.row]) p hp
      · exact if_pos rfl
      · intro j hj; exact if_neg (by omega)
      · simp
      · intro e he; rw [hfm] at he; simp [he]
  have e : a = n := by omega
  subst e
  clear ih hlt ha
  have tl := fun i (hi : i < a) => rowsN_at (f := livV S N) hi
  have tu := fun i (hi : i < a) => rowsN_at (f := rUseV p N) hi
  have td := fun i (hi : i < a) => rowsN_at (f := rDefV p N) hi
  have l1 := rowsN_len (livV S N) a
  have l2 := rowsN_len (rUseV p N) a
  have l3 := rowsN_len (rDefV p N) a
  have s1 := rowsN_sz (livV S N) a
  have s2 := rowsN_sz (rUseV p N) a
  have s3 := rowsN_sz (rDefV p N) a
  generalize rowsN (livV S N) a = LV at *
  generalize rowsN (rUseV p N) a = UV at *
  generalize rowsN (rDefV p N) a = DV at *
  simp only [livV, rUseV, rDefV] at tl tu td
  clear hfd
  generalize hUe : useP p = U at *
  generalize hDe : defP p = D at *
  have hDR : ∀ i (l : List Int), rDefR p N i l = l.map fun x => [.isl (boolR N (D i x))] := fun i l => by rw [← hDe]; rfl
  have hnin := fun (i : Nat) x (h : x ∈ nextL p.code i) => nextL_in h
  rw [hnn] at hnin
  simp -implicitDefEqProofs only [go_sem, Ins.v, Ins.row, Int.lt_irrefl, h1, h2, g5, k5]
  refine Run.keep [11, 6, 5, 4, 3, 1] ?_
  have hbq : ∀ k i : Nat, k < 1000000000000 → (k = 1000000000000 + i) = False := fun k i h => eq_false (by omega)
  have hbq2 : ∀ k i : Nat, k < 1000000000000 → (1000000000000 + i = k) = False := fun k i h => eq_false (by omega)
  refine Run.roundsK (fun (x : (Nat → Nat → Bool) × Bool) => ⟨[(11, .bool x.2), (6, .sl (10 * 10000 + 25) sv 0 a), (5, .sl (10 * 10000 + 24) sd 0 a), (4, .sl (10 * 10000 + 23) su 0 a), (3, .int .i64 N), (1, .ptr (10 * 10000 + 1) 0 0 0)],
      ((10 * 10000 + 25), sv, .rows 1 LV) :: ((10 * 10000 + 24), sd, .rows 1 DV) :: ((10 * 10000 + 23), su, .rows 1 UV) :: ((10 * 10000 + 1), 0, .rows 11 [pr]) :: famH (fun i => boolR N (x.1 i)) S a, m⟩)
    (fun x => SoundM U (fun a => nextL p.code a) D x.1 ∧ (x.2 = false → ∀ i r, i < a → r < N → ClosedM U (fun a => nextL p.code a) D x.1 i r)) (fun x => 2 * unM a N x.1 + (if x.2 then 1 else 0)) (fun _ _ => false, true) ?_ ⟨fun _ _ h => absurd h (by simp), fun h => absurd h (by simp)⟩ ?_
  · refine Weak.wk (Weak.of (by simp -implicitDefEqProofs only [go_sem, Ins.v, Ins.row]) (fun e he => he) (by simp -implicitDefEqProofs only [go_sem, Ins.v, Ins.row]))
  rintro ⟨M, more⟩ ⟨hS0, hcl⟩ ih
  simp only at hS0 hcl ih ⊢
  refine Run.unf scriptingref35_Live_l2_eq (Run.go 100 ?_)
  cases more with
  | false =>
    have hcl := hcl rfl
    clear ih
    have hfd := fun (b : Nat) hb => famH_del (F := fun i => boolR N (M i)) (S := S) (m := a) (b := b) hb
    have hfg := fun (i : Nat) hi => famH_get (F := fun i => boolR N (M i)) (S := S) (m := a) (i := i) hi
    have hfn : ∀ e ∈ famH (fun i => boolR N (M i)) S a, 1000000000000 ≤ e.1 := fun e he => by
      obtain ⟨j, _, rfl⟩ := famH_mem.1 he
      simp only [famE]; omega
    generalize famH (fun i => boolR N (M i)) S a = fm at *
    simp -implicitDefEqProofs only [go_sem, Ins.v, Ins.row, hfd]
    refine Run.keep [18, 17, 6, 3] ?_
    have hLV : liveV p = .isl ((List.range a).map fun i => [.isl ((((List.range N).filter (M i)).map fun r => ((r : Nat) : Int)).map zrw)]) := by
      unfold liveV
      rw [hnn]
      refine congrArg V.isl (List.map_congr_left fun i hi => ?_)
      have hia : i < a := List.mem_range.1 hi
      unfold lvL
      rw [hNe, show (List.range N).filter (liveP p i) = (List.range N).filter (M i) from List.filter_congr fun r hr => ?_]
      have hrN := List.mem_range.1 hr
      have e1 : liveP p i r = true ↔ M i r = true := by
        unfold liveP
        rw [hUe, hDe, liveB_iff]
        exact ⟨fun h => closed_live (n := a) (N := N) (fun b x hx => hnin b x hx) hcl h hia hrN, fun h => hS0 i r h⟩
      exact Bool.eq_iff_iff.2 e1
    rw [hLV]
    generalize hM : (fun i => (((List.range N).filter (M i)).map fun r => ((r : Nat) : Int)).map zrw) = OV at *
    have hOV : ∀ i, (((List.range N).filter (M i)).map fun r => ((r : Nat) : Int)).map zrw = OV i := fun i => by rw [← hM]
    simp only [hOV]
    refine Run.roundsK (fun (x : Nat × Nat × Nat) => ⟨[(18, .int .i64 x.1), (17, .sl (10 * 10000 + 144) x.2.1 0 x.1), (6, .sl (10 * 10000 + 25) sv 0 a), (3, .int .i64 N)],
        ((10 * 10000 + 144), x.2.1, .rows 1 (rowsN (fun i => .isl (OV i)) x.1)) :: ((10 * 10000 + 25), sv, .rows 1 LV) :: fm, x.2.2⟩)
      (fun x => x.1 ≤ a) (fun x => a - x.1) (0, m, m + 1) ?_ (Nat.zero_le _) ?_
    · refine Weak.wk (Weak.of (by simp -implicitDefEqProofs only [go_sem, Ins.v, Ins.row]) (fun e he => ?_) (by simp -implicitDefEqProofs only [go_sem, Ins.v, Ins.row]))
      simp only [rowsN, List.range_zero, List.map_nil, List.mem_cons] at he ⊢
      rcases he with h | h | h <;> simp only [h, eq_self, true_or, or_true]
    rintro ⟨i, s1x, m2⟩ hi ih
    simp only at hi ih ⊢
    refine Run.unf scriptingref35_Live_l6_eq (Run.go 100 ?_)
    by_cases hia : i < a
    case neg =>
      have e0 : i = a := by omega
      subst e0
      have tl2 := rowsN_len (fun j => V.isl (OV j)) i
      have tv : rowsN (fun j => V.isl (OV j)) i = (List.range i).map fun j => [.isl (OV j)] := rfl
      have hfz : ∀ d h, ((List.range i).map fun j => [V.isl (OV j)]).map (fun r => r.map (frz d h)) = (List.range i).map fun j => [V.isl (OV j)] := fun d h => by
        rw [List.map_map]
        refine List.map_congr_left fun j _ => ?_
        have hz := frzZ d h (((List.range N).filter (M j)).map fun r => ((r : Nat) : Int))
        rw [hOV] at hz
        have hq : frz d h (.isl (OV j)) = .isl (OV j) := by
          cases d <;> exact (by simp only [frz, V.sub, subLL_map]; exact congrArg V.isl hz)
        simp only [Function.comp, List.map_cons, List.map_nil, hq]
      rw [tv] at tl2 ⊢
      generalize ((List.range i).map fun j => [V.isl (OV j)]) = TV at *
      have tk : TV.take i = TV := List.take_of_length_le (by omega)
      have tb : Nat.ble i TV.length = true := Nat.ble_eq_true_of_le (by omega)
      simp -implicitDefEqProofs only [go_sem, Ins.v, Ins.row, Int.lt_irrefl, tk, tb, tl2]
      exact hfz _ _
    have q0 : ((i : Int) < (a : Int)) = True := eq_true (by omega)
    have q1 : ((0 : Int) ≤ (i : Int)) = True := eq_true (by omega)
    have tlen := rowsN_len (fun j => V.isl (OV j)) i
    have tsucc := rowsN_succ (fun j => V.isl (OV j)) i
    have hlx := tl i hia
    have hgx := hfg i hia
    have hOi := hOV i
    have hOl : (OV i).length = cntF (M i) N := by rw [← hOi]; simp [cntF]
    have hOa : ∀ r, r < N → M i r = true → (OV i)[cntF (M i) r]? = some [.int .i64 (r : Nat)] := fun r hr h => by
      rw [← hOi, List.getElem?_map, List.getElem?_map, filter_at h hr]; rfl
    have fin := fun s (w m3 : Nat) => ih s (i + 1, w, m3) (by simp only; omega) (by simp only; omega)
    clear ih
    simp only [tsucc] at fin
    have hzi : ((i + 1 : Nat) : Int) = (i : Int) + 1 := by omega
    generalize rowsN (fun j => V.isl (OV j)) i = T at *
    generalize OV i = R at *
    simp -implicitDefEqProofs only [go_sem, Ins.v, Ins.row, q0, hfd]
    refine Run.keep [20, 19, 18, 17, 6, 3] ?_
    refine Run.roundsK (fun (y : Nat × Nat × Nat) => ⟨[(20, .int .i64 y.1), (19, .sl (10 * 10000 + 151) y.2.1 0 (cntF (M i) y.1)), (18, .int .i64 i), (17, .sl (10 * 10000 + 144) s1x 0 i), (6, .sl (10 * 10000 + 25) sv 0 a), (3, .int .i64 N)],
        ((10 * 10000 + 151), y.2.1, .rows 1 (R.take (cntF (M i) y.1))) :: ((10 * 10000 + 144), s1x, .rows 1 T) :: ((10 * 10000 + 25), sv, .rows 1 LV) :: fm, y.2.2⟩)
      (fun y => y.1 ≤ N) (fun y => N - y.1) (0, m2, m2 + 1) ?_ (Nat.zero_le _) ?_
    · have hc0 : cntF (M i) 0 = 0 := rfl
      refine Weak.wk (Weak.of (by simp -implicitDefEqProofs only [go_sem, Ins.v, Ins.row, hc0]) (fun e he => he) (by simp -implicitDefEqProofs only [go_sem, Ins.v, Ins.row]))
    rintro ⟨r, st, m3⟩ hr ih2
    simp only at hr ih2 ⊢
    refine Run.unf scriptingref35_Live_l7_eq (Run.go 100 ?_)
    have hzr : ((r + 1 : Nat) : Int) = (r : Int) + 1 := by omega
    by_cases hrN : r < N
    · have w0 : ((r : Int) < (N : Int)) = True := eq_true (by omega)
      have w1 : ((0 : Int) ≤ (r : Int)) = True := eq_true (by omega)
      have hbr := boolR_at (f := M i) hrN
      have hbl := boolR_len N (M i)
      cases hm : M i r with
      | false =>
        have hc := cntF_no (q := M i) hm
        have fin2 := fun s => ih2 s (r + 1, st, m3) (by simp only; omega) (by simp only; omega)
        clear ih2
        simp only [hc] at fin2
        rw [hm] at hbr
        simp -implicitDefEqProofs only [go_sem, Ins.v, Ins.row, q0, q1, w0, w1, hia, l1, s1, hlx, hgx, hbq, hbr, hbl, hrN, Nat.mul_one, Option.some.injEq, forall_eq']
        refine ⟨by omega, fin2 _ (Weak.wk (Weak.of (by simp -implicitDefEqProofs only [go_sem, Ins.v, Ins.row, hzr]) (fun e he => he) (by simp -implicitDefEqProofs only [go_sem, Ins.v, Ins.row])))⟩
      | true =>
        have hc := cntF_yes (q := M i) hm
        have hRx := take_row1 (hOa r hrN hm)
        have hkl : cntF (M i) r ≤ r := by unfold cntF; exact Nat.le_trans (List.length_filter_le _ _) (by simp)
        have fin2 := fun s => ih2 s (r + 1, m3, m3 + 1) (by simp only; omega) (by simp only; omega)
        clear ih2
        simp only [hc, hRx] at fin2
        rw [hm] at hbr
        have hRk : (R.take (cntF (M i) r)).length = cntF (M i) r := by
          have := (List.getElem?_eq_some_iff.1 (hOa r hrN hm)).1
          rw [List.length_take]; omega
        generalize cntF (M i) r = k at *
        generalize R.take k = Rk at *
        have tkk : Rk.take k = Rk := List.take_of_length_le (by omega)
        simp -implicitDefEqProofs only [go_sem, Ins.v, Ins.row, q0, q1, w0, w1, hia, l1, s1, hRk, tkk, hlx, hgx, hbq, hbr, hbl, hfd, hrN, Nat.mul_one, Option.some.injEq, forall_eq']
        refine ⟨by omega, by omega, fin2 _ (Weak.wk (Weak.of (by simp -implicitDefEqProofs only [go_sem, Ins.v, Ins.row, hzr]) (fun e he => ?_) (by simp -implicitDefEqProofs only [go_sem, Ins.v, Ins.row])))⟩
        simp only [List.mem_cons] at he ⊢
        rcases he with h | h | h | h <;> simp only [h, eq_self, true_or, or_true]
    · have e0 : r = N := by omega
      subst e0
      clear ih2
      rw [← hOl, List.take_of_length_le (Nat.le_refl _)]
      have hX : ∀ e ∈ (((10 * 10000 + 25), sv, Blk.rows 1 LV) :: fm : Heap), e.1 ≠ (10 * 10000 + 151) := by
        intro e he
        simp only [List.mem_cons] at he
        rcases he with h | h
        · simp [h]
        · have := hfn e h; omega
      have tki : T.take i = T := List.take_of_length_le (by omega)
      simp -implicitDefEqProofs only [go_sem, Ins.v, Ins.row, Int.lt_irrefl, tlen, tki, hfd]
      refine ⟨by omega, by omega, fin _ m3 (m3 + 1) (Wk.trans (Weak.wk (s' := ⟨[(18, .int .i64 ((i : Int) + 1)), (17, .sl (10 * 10000 + 144) m3 0 (i + 1)), (6, .sl (10 * 10000 + 25) sv 0 a), (3, .int .i64 r)], ((10 * 10000 + 151), st, .rows 1 R) :: ((10 * 10000 + 144), m3, .rows 1 (T ++ [[.sl (10 * 10000 + 151) st 0 R.length]])) :: ((10 * 10000 + 25), sv, .rows 1 LV) :: fm, m3 + 1⟩) (Weak.of (by simp -implicitDefEqProofs only [go_sem, Ins.v, Ins.row]) (fun e he => ?_) (by simp -implicitDefEqProofs only [go_sem, Ins.v, Ins.row]))) (Wk.cellA (by simp -implicitDefEqProofs only [go_sem, Ins.v, Ins.row, hzi]) (by decide) hX rfl))⟩
      simp only [List.mem_cons] at he ⊢
      rcases he with h | h | h | h <;> simp only [h, eq_self, true_or, or_true]
  | true =>
    clear hcl
    simp -implicitDefEqProofs only [go_sem, Ins.v, Ins.row, h1, h2, g5, k5]
    refine ⟨by omega, ?_⟩
    refine Run.keep [12, 11, 6, 5, 4, 3, 1] ?_
    refine Run.roundsK (fun (y : Nat × (Nat → Nat → Bool) × Bool) => ⟨[(12, .int .i64 ((a : Int) - 1 - y.1)), (11, .bool y.2.2), (6, .sl (10 * 10000 + 25) sv 0 a), (5, .sl (10 * 10000 + 24) sd 0 a), (4, .sl (10 * 10000 + 23) su 0 a), (3, .int .i64 N), (1, .ptr (10 * 10000 + 1) 0 0 0)],
        ((10 * 10000 + 25), sv, .rows 1 LV) :: ((10 * 10000 + 24), sd, .rows 1 DV) :: ((10 * 10000 + 23), su, .rows 1 UV) :: ((10 * 10000 + 1), 0, .rows 11 [pr]) :: famH (fun i => boolR N (y.2.1 i)) S a, m⟩)
      (fun y => y.1 ≤ a ∧ SoundM U (fun a => nextL p.code a) D y.2.1 ∧ (y.2.2 = false → y.2.1 = M ∧ ∀ i r, a ≤ i + y.1 → i < a → r < N → ClosedM U (fun a => nextL p.code a) D M i r) ∧ (y.2.2 = true → unM a N y.2.1 < unM a N M)) (fun y => a - y.1) (0, M, false) ?_ ⟨Nat.zero_le _, hS0, fun _ => ⟨rfl, fun i r h1 h2 => absurd h1 (by simp only; omega)⟩, fun h => absurd h (by simp)⟩ ?_
    · refine Weak.wk (Weak.of (by simp -implicitDefEqProofs only [go_sem, Ins.v, Ins.row, Int.sub_zero]) (fun e he => he) (by simp -implicitDefEqProofs only [go_sem, Ins.v, Ins.row]))
    rintro ⟨j, M1, more⟩ ⟨hj, hS1, hc1, hd1⟩ ih2
    simp only at hj hS1 hc1 hd1 ih2 ⊢
    refine Run.unf scriptingref35_Live_l3_eq (Run.go 100 ?_)
    by_cases hja : j < a
    case neg =>
      have e0 : j = a := by omega
      subst e0
      have q0 : ((0 : Int) ≤ (j : Int) - 1 - (j : Int)) = False := eq_false (by omega)
      simp -implicitDefEqProofs only [go_sem, Ins.v, Ins.row, q0, ge_iff_le]
      refine ih _ (M1, more) ⟨hS1, fun hm i r hi hr => ?_⟩ ?_ (Weak.wk (Weak.of (by simp -implicitDefEqProofs only [go_sem, Ins.v, Ins.row]) (fun e he => he) (by simp -implicitDefEqProofs only [go_sem, Ins.v, Ins.row])))
      · simp only at hm
        obtain ⟨rfl, hcc⟩ := hc1 hm
        exact hcc i r (by omega) hi hr
      · cases more with
        | true => have := hd1 rfl; simp; omega
        | false => obtain ⟨rfl, _⟩ := hc1 rfl; simp
    obtain ⟨at_, hat⟩ : ∃ at_ : Nat, at_ = a - 1 - j := ⟨_, rfl⟩
    have ea : (a : Int) - 1 - (j : Int) = (at_ : Int) := by omega
    have ea2 : (a : Int) - 1 - ((j + 1 : Nat) : Int) = (at_ : Int) - 1 := by omega
    have hata : at_ < a := by omega
    have q0 : ((0 : Int) ≤ (at_ : Int)) = True := eq_true (by omega)
    have q1 : ((at_ : Int) < (a : Int)) = True := eq_true (by omega)
    have xu := tu at_ hata
    have xd := td at_ hata
    have xl := tl at_ hata
    have hni := hnin at_
    rw [ea]
    simp -implicitDefEqProofs only [go_sem, Ins.v, Ins.row, q0, h1, h2, ge_iff_le]
    refine CallS.pureF (hnx at_) (by simp -implicitDefEqProofs only [go_sem, Ins.v, Ins.row, hsub]) ?_
    have hnl2 := nextL_len2 p.code at_
    have hcl0 : ∀ {MM : Nat → Nat → Bool} {r : Nat}, (U at_ r || anyK D MM (nextL p.code at_) at_ r (nextL p.code at_).length) = true → SoundM U (fun a => nextL p.code a) D MM → LiveR U (fun a => nextL p.code a) D at_ r := fun h hs => live_any (Nx := fun a => nextL p.code a) hs (fun x hx => (hni x hx).1) h
    have hcl1 : ∀ {r : Nat}, ((U at_ r || anyK D M (nextL p.code at_) at_ r (nextL p.code at_).length) = true → M at_ r = true) → ClosedM U (fun a => nextL p.code a) D M at_ r := fun h => closed_any (Nx := fun a => nextL p.code a) h
    have hDRl := hDR at_ (nextL p.code at_)
    generalize rDefR p N at_ (nextL p.code at_) = DRl at *
    generalize hnle : nextL p.code at_ = nl at *
    have hnls : ∀ (k : Nat) (x : Int), nl[k]? = some x → (nl.map zrw)[k]? = some [.int .i64 x] := fun k x h => zrw_at h
    have hnll : (nl.map zrw).length = nl.length := List.length_map ..
    have hnlz := rowszZ' nl
    have hDl : DRl.length = nl.length := by rw [hDRl]; simp
    have hDz : rowsz DRl 1 = True := by rw [hDRl]; exact eq_true fun r hr => by obtain ⟨y, _, rfl⟩ := List.mem_map.1 hr; rfl
    have hDa : ∀ (k : Nat) (x : Int), nl[k]? = some x → DRl[k]? = some [.isl (boolR N (D at_ x))] := fun k x h => by rw [hDRl, List.getElem?_map, h]; rfl
    generalize nl.map zrw = nls at *
    simp -implicitDefEqProofs only [go_sem, Ins.v, Ins.row]
    refine Run.keep [14, 13, 12, 11, 6, 5, 4, 3, 1] ?_
    refine Run.roundsK (fun (y : Nat × (Nat → Nat → Bool) × Bool) => ⟨[(14, .int .i64 y.1), (13, .isl nls), (12, .int .i64 at_), (11, .bool y.2.2), (6, .sl (10 * 10000 + 25) sv 0 a), (5, .sl (10 * 10000 + 24) sd 0 a), (4, .sl (10 * 10000 + 23) su 0 a), (3, .int .i64 N), (1, .ptr (10 * 10000 + 1) 0 0 0)],
        ((10 * 10000 + 25), sv, .rows 1 LV) :: ((10 * 10000 + 24), sd, .rows 1 DV) :: ((10 * 10000 + 23), su, .rows 1 UV) :: ((10 * 10000 + 1), 0, .rows 11 [pr]) :: famH (fun i => boolR N (y.2.1 i)) S a, m⟩)
      (fun y => y.1 ≤ N ∧ SoundM U (fun a => nextL p.code a) D y.2.1 ∧ (y.2.2 = false → y.2.1 = M ∧ (∀ i r, a ≤ i + j → i < a → r < N → ClosedM U (fun a => nextL p.code a) D M i r) ∧ ∀ r, r < y.1 → ClosedM U (fun a => nextL p.code a) D M at_ r) ∧ (y.2.2 = true → unM a N y.2.1 < unM a N M)) (fun y => N - y.1) (0, M1, more) ?_ ⟨Nat.zero_le _, hS1, fun h => ⟨(hc1 h).1, (hc1 h).2, fun r hr => absurd hr (Nat.not_lt_zero r)⟩, hd1⟩ ?_
    · refine Weak.wk (Weak.of (by simp -implicitDefEqProofs only [go_sem, Ins.v, Ins.row]) (fun e he => he) (by simp -implicitDefEqProofs only [go_sem, Ins.v, Ins.row]))
    rintro ⟨r, M2, mo⟩ ⟨hr, hS2, hc2, hd2⟩ ih3
    simp only at hr hS2 hc2 hd2 ih3 ⊢
    refine Run.unf scriptingref35_Live_l4_eq (Run.go 100 ?_)
    by_cases hrN : r < N
    case neg =>
      have e0 : r = N := by omega
      subst e0
      simp -implicitDefEqProofs only [go_sem, Ins.v, Ins.row, Int.lt_irrefl]
      refine ⟨by omega, ih2 _ (j + 1, M2, mo) ⟨by simp only; omega, hS2, fun h => ⟨(hc2 h).1, fun i r hi hia hr => ?_⟩, hd2⟩ (by simp only; omega) (Weak.wk (Weak.of (by simp -implicitDefEqProofs only [go_sem, Ins.v, Ins.row, ea2]) (fun e he => he) (by simp -implicitDefEqProofs only [go_sem, Ins.v, Ins.row])))⟩
      simp only at hi
      by_cases ci : a ≤ i + j
      · exact (hc2 h).2.1 i r ci hia hr
      · obtain rfl : i = at_ := by omega
        exact (hc2 h).2.2 r hr
    have w0 : ((r : Int) < (N : Int)) = True := eq_true (by omega)
    have w1 : ((0 : Int) ≤ (r : Int)) = True := eq_true (by omega)
    have hzr : ((r + 1 : Nat) : Int) = (r : Int) + 1 := by omega
    have hur := boolR_at (f := U at_) hrN
    have hul := boolR_len N (U at_)
    have huz := boolR_sz N (U at_)
    have hfd := fun (b : Nat) hb => famH_del (F := fun i => boolR N (M2 i)) (S := S) (m := a) (b := b) hb
    have hfg := fun (i : Nat) hi => famH_get (F := fun i => boolR N (M2 i)) (S := S) (m := a) (i := i) hi
    have hputm := fun X e => famH_put (F := fun i => boolR N (M2 i)) (S := S) (m := a) (i := at_) (X := X) (e := e)
    generalize hfm2 : famH (fun i => boolR N (M2 i)) S a = fm2 at *
    simp -implicitDefEqProofs only [go_sem, Ins.v, Ins.row, w0, w1, q0, q1, hata, hrN, l2, s2, xu, hur, hul, huz, Nat.mul_one, Option.some.injEq, forall_eq']
    refine Run.keep [16, 15, 14, 13, 12, 11, 6, 5, 4, 3, 1] ?_
    refine Run.roundsK (fun (k : Nat) => ⟨[(16, .int .i64 k), (15, .bool (U at_ r || anyK D M2 nl at_ r k)), (14, .int .i64 r), (13, .isl nls), (12, .int .i64 at_), (11, .bool mo), (6, .sl (10 * 10000 + 25) sv 0 a), (5, .sl (10 * 10000 + 24) sd 0 a), (4, .sl (10 * 10000 + 23) su 0 a), (3, .int .i64 N), (1, .ptr (10 * 10000 + 1) 0 0 0)],
        ((10 * 10000 + 25), sv, .rows 1 LV) :: ((10 * 10000 + 24), sd, .rows 1 DV) :: ((10 * 10000 + 23), su, .rows 1 UV) :: ((10 * 10000 + 1), 0, .rows 11 [pr]) :: fm2, m⟩)
      (fun k => k ≤ nl.length) (fun k => nl.length - k) 0 ?_ (Nat.zero_le _) ?_
    · refine Weak.wk (Weak.of (by simp -implicitDefEqProofs only [go_sem, Ins.v, Ins.row, anyK_zero, Bool.or_false]) (fun e he => he) (by simp -implicitDefEqProofs only [go_sem, Ins.v, Ins.row]))
    rintro k hk ih4
    refine Run.unf scriptingref35_Live_l5_eq (Run.go 100 ?_)
    have hzk : ((k + 1 : Nat) : Int) = (k : Int) + 1 := by omega
    have hend : (U at_ r || anyK D M2 nl at_ r k) = true ∨ k = nl.length → (U at_ r || anyK D M2 nl at_ r k) = (U at_ r || anyK D M2 nl at_ r nl.length) := fun h => by
      rcases h with h | h
      · rw [h]
        rw [Bool.or_eq_true] at h
        symm
        rw [Bool.or_eq_true]
        exact h.imp id anyK_mono
      · rw [h]
    by_cases hcont : k < nl.length ∧ (U at_ r || anyK D M2 nl at_ r k) = false
    · obtain ⟨hlk, hisf⟩ := hcont
      have v0 : ((k : Int) < (nl.length : Int)) = True := eq_true (by omega)
      have v1 : ((0 : Int) ≤ (k : Int)) = True := eq_true (by omega)
      obtain ⟨x, hx⟩ : ∃ x, nl[k]? = some x := ⟨nl[k], by simp [hlk]⟩
      have hxr := hnls k x hx
      have hxi := hni x (List.mem_of_getElem? hx)
      obtain ⟨xx, rfl⟩ : ∃ xx : Nat, x = xx := ⟨x.toNat, by omega⟩
      have x0 : ((0 : Int) ≤ (xx : Int)) = True := eq_true (by omega)
      have x1 : ((xx : Int) < (a : Int)) = True := eq_true (by omega)
      have x2 : (xx < a) = True := eq_true (by omega)
      have hdx := hDa k xx hx
      have hdr := boolR_at (f := D at_ xx) hrN
      have hdl := boolR_len N (D at_ xx)
      have hdz := boolR_sz N (D at_ xx)
      have hlx := tl xx (by omega)
      have hgx := hfg xx (by omega)
      have hbr := boolR_at (f := M2 xx) hrN
      have hbl := boolR_len N (M2 xx)
      have hany := anyK_succ (D := D) (M := M2) (a := at_) (r := r) hx
      rw [show ((xx : Int)).toNat = xx by omega] at hany
      have fin := fun s => ih4 s (k + 1) (by omega) (by omega)
      clear ih4 hend
      rw [hany, ← Bool.or_assoc, hisf, Bool.false_or] at fin
      rw [hisf]
      generalize D at_ xx r = dv at *
      generalize M2 xx r = mv at *
      cases mv with
      | false =>
        simp -implicitDefEqProofs only [go_sem, Ins.v, Ins.row, v0, v1, w0, w1, x0, x1, x2, hnll, hnlz, hxr, hlk, l1, s1, hlx, hgx, hbq, hbr, hbl, hrN, Nat.mul_one, Option.some.injEq, forall_eq']
        refine ⟨by omega, fin _ (Weak.wk (Weak.of (by simp -implicitDefEqProofs only [go_sem, Ins.v, Ins.row, hzk, Bool.and_false]) (fun e he => he) (by simp -implicitDefEqProofs only [go_sem, Ins.v, Ins.row])))⟩
      | true =>
        simp -implicitDefEqProofs only [go_sem, Ins.v, Ins.row, v0, v1, w0, w1, q0, q1, hata, x0, x1, x2, hnll, hnlz, hxr, hlk, l1, s1, l3, s3, xd, hDl, hDz, hdx, hdr, hdl, hdz, hlx, hgx, hbq, hbr, hbl, hrN, Nat.mul_one, Option.some.injEq, forall_eq']
        refine ⟨by omega, fin _ (Weak.wk (Weak.of (by simp -implicitDefEqProofs only [go_sem, Ins.v, Ins.row, hzk, Bool.and_true]) (fun e he => he) (by simp -implicitDefEqProofs only [go_sem, Ins.v, Ins.row])))⟩
    · have hcases : (U at_ r || anyK D M2 nl at_ r k) = true ∨ k = nl.length := by
        cases hb : (U at_ r || anyK D M2 nl at_ r k) with
        | true => exact .inl rfl
        | false => right; rcases Nat.lt_or_ge k nl.length with h | h; exact absurd ⟨h, hb⟩ hcont; omega
      have hend := hend hcases
      have hgx := hfg at_ hata
      have hbr := boolR_at (f := M2 at_) hrN
      have hbl := boolR_len N (M2 at_)
      have hlive : (U at_ r || anyK D M2 nl at_ r nl.length) = true → LiveR U (fun a => nextL p.code a) D at_ r := fun h => hcl0 h hS2
      have hclos : (U at_ r || anyK D M2 nl at_ r nl.length) = false ∨ M2 at_ r = true → mo = false → ClosedM U (fun a => nextL p.code a) D M at_ r := fun h hm => by
        obtain ⟨rfl, _⟩ := hc2 hm
        exact hcl1 fun h2 => h.elim (fun h3 => by rw [h2] at h3; cases h3) fun h3 => h3
      have same : (U at_ r || anyK D M2 nl at_ r nl.length) = false ∨ M2 at_ r = true → ∀ s, _ → _ := fun h s => ih3 s (r + 1, M2, mo) ⟨by simp only; omega, hS2, fun hm => ⟨(hc2 hm).1, (hc2 hm).2.1, fun r' hr' => by
        by_cases c : r' = r
        · subst c; exact hclos h hm
        · exact (hc2 hm).2.2 r' (by simp only at hr'; omega)⟩, hd2⟩ (by simp only; omega)
      have mark : (U at_ r || anyK D M2 nl at_ r nl.length) = true → M2 at_ r = false → ∀ s, _ → _ := fun h hm s => ih3 s (r + 1, markM M2 at_ r, true) ⟨by simp only; omega, sound_mark hS2 (hlive h), fun hx => absurd hx (by simp), fun _ => by
        have h1 := unM_mark (n := a) (N := N) hata hrN hm
        simp only
        cases mo with
        | true => have := hd2 rfl; omega
        | false => obtain ⟨rfl, _⟩ := hc2 rfl; exact h1⟩ (by simp only; omega)
      have hlen : (U at_ r || anyK D M2 nl at_ r k) = false → k = nl.length := fun h => hcases.elim (fun h2 => by rw [h] at h2; cases h2) id
      clear ih3 hclos hlive hcl0 hcl1 ih4 hcases hcont
      rw [← hend] at same mark
      clear hend
      generalize (U at_ r || anyK D M2 nl at_ r k) = is at *
      generalize hmv : M2 at_ r = mv at *
      cases is with
      | false =>
        have same := same (.inl rfl)
        clear mark
        obtain rfl := hlen rfl
        simp -implicitDefEqProofs only [go_sem, Ins.v, Ins.row, Int.lt_irrefl, hnll]
        refine ⟨by omega, same _ (Weak.wk (Weak.of (by simp -implicitDefEqProofs only [go_sem, Ins.v, Ins.row, hzr]) (fun e he => by rw [← hfm2] at *; exact he) (by simp -implicitDefEqProofs only [go_sem, Ins.v, Ins.row])))⟩
      | true =>
        clear hlen
        cases mv with
        | true =>
          have same := same (.inr rfl)
          clear mark
          by_cases hlk : k < nl.length
          · have v0 : ((k : Int) < (nl.length : Int)) = True := eq_true (by omega)
            simp -implicitDefEqProofs only [go_sem, Ins.v, Ins.row, v0, hnll, q0, q1, w0, w1, hata, l1, s1, xl, hgx, hbq, hbr, hbl, hrN, Nat.mul_one, Option.some.injEq, forall_eq']
            refine ⟨by omega, same _ (Weak.wk (Weak.of (by simp -implicitDefEqProofs only [go_sem, Ins.v, Ins.row, hzr]) (fun e he => by rw [← hfm2] at *; exact he) (by simp -implicitDefEqProofs only [go_sem, Ins.v, Ins.row])))⟩
          · have v0 : ((k : Int) < (nl.length : Int)) = False := eq_false (by omega)
            simp -implicitDefEqProofs only [go_sem, Ins.v, Ins.row, v0, hnll, q0, q1, w0, w1, hata, l1, s1, xl, hgx, hbq, hbr, hbl, hrN, Nat.mul_one, Option.some.injEq, forall_eq']
            refine ⟨by omega, same _ (Weak.wk (Weak.of (by simp -implicitDefEqProofs only [go_sem, Ins.v, Ins.row, hzr]) (fun e he => by rw [← hfm2] at *; exact he) (by simp -implicitDefEqProofs only [go_sem, Ins.v, Ins.row])))⟩
        | false =>
          have mark := mark rfl rfl
          clear same
          have hmem : ∀ e, e ∈ (((10 * 10000 + 25), sv, .rows 1 LV) :: ((10 * 10000 + 24), sd, .rows 1 DV) :: ((10 * 10000 + 23), su, .rows 1 UV) :: ((10 * 10000 + 1), 0, .rows 11 [pr]) :: famH (fun i => boolR N (markM M2 at_ r i)) S a : Heap) → e ∈ ((1000000000000 + at_, S at_, Blk.rows 1 ((boolR N (M2 at_)).set r [.bool true])) :: ((10 * 10000 + 25), sv, .rows 1 LV) :: ((10 * 10000 + 24), sd, .rows 1 DV) :: ((10 * 10000 + 23), su, .rows 1 UV) :: ((10 * 10000 + 1), 0, .rows 11 [pr]) :: Heap.del fm2 (1000000000000 + at_) : Heap) := fun e he => by
            simp only [fam_mark, List.mem_cons] at he ⊢
            rcases he with h | h | h | h | h
            · simp only [h, eq_self, true_or, or_true]
            · simp only [h, eq_self, true_or, or_true]
            · simp only [h, eq_self, true_or, or_true]
            · simp only [h, eq_self, true_or, or_true]
            · rcases hputm _ _ h with h | h
              · simp only [h, eq_self, true_or, or_true]
              · simp only [h, or_true]
          by_cases hlk : k < nl.length
          · have v0 : ((k : Int) < (nl.length : Int)) = True := eq_true (by omega)
            simp -implicitDefEqProofs only [go_sem, Ins.v, Ins.row, v0, hnll, q0, q1, w0, w1, hata, l1, s1, xl, hgx, hbq, hbr, hbl, hrN, Nat.mul_one, Option.some.injEq, forall_eq']
            exact ⟨by omega, mark _ (Weak.wk (Weak.of (by simp -implicitDefEqProofs only [go_sem, Ins.v, Ins.row, hzr]) hmem (by simp -implicitDefEqProofs only [go_sem, Ins.v, Ins.row])))⟩
          · have v0 : ((k : Int) < (nl.length : Int)) = False := eq_false (by omega)
            simp -implicitDefEqProofs only [go_sem, Ins.v, Ins.row, v0, hnll, q0, q1, w0, w1, hata, l1, s1, xl, hgx, hbq, hbr, hbl, hrN, Nat.mul_one, Option.some.injEq, forall_eq']
            exact ⟨by omega, mark _ (Weak.wk (Weak.of (by simp -implicitDefEqProofs only [go_sem, Ins.v, Ins.row, hzr]) hmem (by simp -implicitDefEqProofs only [go_sem, Ins.v, Ins.row])))⟩
end Go.Proofs.YtdnpnbenahpllaaDoor
