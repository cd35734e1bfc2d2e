/-
  What the reference's 'Op', 'Text' and 'Parse' answer: what the program's do. No condition.
-/
import Derived.Test.YtcdfefcpbaiolaaGreatDoorTxtR2
import Derived.Test.YtcdfefcpbaiolaaGreatDoorPar
import Derived.Test.YtcdfefcpbaiolaaGreatDoorOpc5
set_option linter.unusedVariables false
set_option linter.unusedSimpArgs false
set_option maxRecDepth 100000
set_option maxHeartbeats 0
namespace Go.Proofs.YtcdfefcpbaiolaaGreatDoor
open Go Go.Abs
attribute [local irreducible] CallS Run
-- EV: Ins.v, Ins.row, Shp.v, Shp.row

/-! Plain: words put together again. -/
def joinW : List (List UInt8) → List UInt8
  | [] => []
  | [w] => w
  | w :: r => w ++ 32 :: joinW r
theorem joinW_cons (w : List UInt8) {r : List (List UInt8)} (h : r ≠ []) : joinW (w :: r) = w ++ 32 :: joinW r := by
  cases r with
  | nil => exact absurd rfl h
  | cons a b => rfl
theorem split_at (s : List UInt8) (h : (32 : UInt8) ∈ s) : ∃ a b, s = a ++ 32 :: b ∧ (32 : UInt8) ∉ a := by
  induction s with
  | nil => cases h
  | cons c s ih =>
    by_cases e : c = 32
    · exact ⟨[], s, by rw [e]; rfl, by simp⟩
    · obtain ⟨a, b, h1, h2⟩ := ih (by rcases List.mem_cons.1 h with h | h; exact absurd h.symm e; exact h)
      refine ⟨c :: a, b, by rw [h1]; rfl, fun hm => ?_⟩
      rcases List.mem_cons.1 hm with h | h
      · exact e h.symm
      · exact h2 h
theorem join_split : ∀ (n : Nat) (s : List UInt8), s.length ≤ n → joinW (Lib.split s [32]) = s
  | n, s, hn => by
    by_cases h : (32 : UInt8) ∈ s
    · obtain ⟨a, b, rfl, ha⟩ := split_at s h
      cases n with
      | zero => simp at hn
      | succ n =>
        have ih := join_split n b (by simp at hn; omega)
        rw [split_cons b ha, joinW_cons _ (split_ne b), ih]
    · rw [split_one h]; rfl
theorem split_inj {s t : List UInt8} (h : Lib.split s [32] = Lib.split t [32]) : s = t := by
  rw [← join_split _ s (Nat.le_refl _), h, join_split _ t (Nat.le_refl _)]
theorem joinW_len : ∀ l : List (List UInt8), l.length ≤ (joinW l).length + 1
  | [] => by simp [joinW]
  | [w] => by simp [joinW]
  | w :: a :: r => by
    have := joinW_len (a :: r)
    rw [joinW_cons w (by simp)]
    simp only [List.length_append, List.length_cons] at this ⊢
    omega
theorem split_count (s : List UInt8) : (Lib.split s [32]).length ≤ s.length + 1 := by
  have := joinW_len (Lib.split s [32])
  rwa [join_split _ s (Nat.le_refl _)] at this
/-- What the reference's parser gives. -/
def rparseI (op : Int) : Option (List Int × List (List UInt8)) → V
  | some ([a, b, c, d], []) => if chk ⟨op, a, b, c, d⟩ = 0 then .tup [Ins.v ⟨op, a, b, c, d⟩, .int .i64 0] else .tup [zI, .int .i64 (chk ⟨op, a, b, c, d⟩)]
  | _ => .tup [zI, .int .i64 4]
theorem readL_zeros : ∀ (ks : List Int) (r : List (List UInt8)) (xs : List Int) (l : List (List UInt8)), readL ks r = some (xs, l) → xs.length = ks.length ∧ (∀ x ∈ xs, int64 x) ∧ ∀ p ∈ ks.zip xs, p.1 = 0 → p.2 = 0
  | [], r, xs, l, h => by
    rw [readL] at h
    injection h with h; injection h with h1 h2
    subst h1
    exact ⟨rfl, fun x hx => (by cases hx), fun p hp => (by cases hp)⟩
  | k :: ks, r, xs, l, h => by
    rw [readL.eq_def] at h
    simp only at h
    by_cases hk : k = 0
    · rw [if_pos hk] at h
      obtain ⟨⟨xs', l'⟩, h1, h2⟩ := Option.map_eq_some_iff.1 h
      injection h2 with h2 h3
      simp only at h2 h3
      subst h2
      obtain ⟨g1, g2, g3⟩ := readL_zeros ks r xs' l' h1
      refine ⟨by simp [g1], fun x hx => ?_, fun p hp hp0 => ?_⟩
      · rcases List.mem_cons.1 hx with rfl | hx
        · exact ⟨by omega, by omega⟩
        · exact g2 x hx
      · rw [List.zip_cons_cons] at hp
        rcases List.mem_cons.1 hp with rfl | hp
        · rfl
        · exact g3 p hp hp0
    · rw [if_neg hk] at h
      cases r with
      | nil => cases h
      | cons w r =>
        simp only at h
        cases hn : Lib.atoiAll w
        case ok n =>
          rw [hn] at h
          obtain ⟨⟨xs', l'⟩, h1, h2⟩ := Option.map_eq_some_iff.1 h
          injection h2 with h2 h3
          simp only at h2 h3
          subst h2
          obtain ⟨g1, g2, g3⟩ := readL_zeros ks r xs' l' h1
          refine ⟨by simp [g1], fun x hx => ?_, fun p hp hp0 => ?_⟩
          · rcases List.mem_cons.1 hx with rfl | hx
            · exact Lib.atoiAll_bounds hn
            · exact g2 x hx
          · rw [List.zip_cons_cons] at hp
            rcases List.mem_cons.1 hp with rfl | hp
            · exact absurd hp0 hk
            · exact g3 p hp hp0
        all_goals rw [hn] at h; cases h
theorem parse_same {s w : List UInt8} {r : List (List UInt8)} {op : Int} (hs : Lib.split s [32] = w :: r) (hop : isOp op = true) (hw : (frm op).word = w) :
    parseI op s (readL (frm op).ks r) = rparseI op (readC (frm op).ks r) := by
  have four : ∀ xs : List Int, xs.length = 4 → ∃ a b c d, xs = [a, b, c, d] := fun xs h => by
    match xs, h with
    | [a, b, c, d], _ => exact ⟨a, b, c, d, rfl⟩
  cases hc : readC (frm op).ks r with
  | some q =>
    obtain ⟨xs, l⟩ := q
    obtain ⟨h1, h2, h3⟩ := readC_some _ _ _ _ hc
    obtain ⟨a, b, c, d, rfl⟩ := four xs h3
    rw [h1]
    cases l with
    | cons x y => rfl
    | nil =>
      have ht : textL ⟨op, a, b, c, d⟩ = s := split_inj (by
        rw [text_split (i := ⟨op, a, b, c, d⟩) hop, hs, h2, List.append_nil, hw]; rfl)
      simp only [parseI, rparseI, if_pos ht]
  | none =>
    have hr : rparseI op none = .tup [zI, .int .i64 4] := rfl
    rw [hr]
    cases hl : readL (frm op).ks r with
    | none => rfl
    | some q =>
      obtain ⟨xs, l⟩ := q
      obtain ⟨h1, h2, h3⟩ := readL_zeros _ _ _ _ hl
      obtain ⟨a, b, c, d, rfl⟩ := four xs h1
      cases l with
      | cons x y => rfl
      | nil =>
        have ht : textL ⟨op, a, b, c, d⟩ ≠ s := fun ht => by
          have e := text_split (i := ⟨op, a, b, c, d⟩) hop
          rw [ht, hs] at e
          injection e with _ e
          have hrw := readC_words (frm op).ks [a, b, c, d] rfl h2 h3
          have e' : r = wordsL (frm op).ks [a, b, c, d] := e
          rw [← e', hc] at hrw
          cases hrw
        simp only [parseI, if_neg ht]

/-! 'Op'. -/
theorem shp_frm (op : Int) : (shp op).word = (frm op).word ∧ (shp op).ha = !decide ((frm op).a = 0) ∧ (shp op).hb = !decide ((frm op).b = 0) ∧ (shp op).hc = !decide ((frm op).c = 0) ∧ (shp op).hd = !decide ((frm op).d = 0) := by
  unfold shp frm
  cases isOp op with
  | true => exact ⟨rfl, rfl, rfl, rfl, rfl⟩
  | false => exact ⟨rfl, rfl, rfl, rfl, rfl⟩
theorem frm_word {n : Nat} (h : n < 29) : wordT[n]? = some (frm ((n : Int) + 1)).word := by
  have : ∀ n : Nat, n < 29 → wordT[n]? = some (wordT.getD n []) := by decide
  rw [this n h, frm, if_pos (by unfold isOp; simp; omega)]
  have e : ((n : Int) + 1).toNat = n + 1 := by omega
  rw [e]; rfl
theorem rop_pure (s : List UInt8) : Abs.Pure Tryz.prog 22 [.str s] (.tup [.int .i64 (idxV wordT s + 1), .bool (decide (0 ≤ idxV wordT s))]) := by
  refine Pure.of 0 (CallS.enter scriptingref32_Op_ok (Nat.le_of_ble_eq_true rfl) (Run.go 100 ?_))
  simp -implicitDefEqProofs only [go_sem, Ins.v, Ins.row, Shp.v, Shp.row, initSl]
  refine Run.rounds (fun (n : Nat) => ⟨[(4, .int .i64 ((n : Int) + 1)), (0, .str s)], [], 0⟩) (fun n => n ≤ 29 ∧ ∀ j, j < n → wordT[j]? ≠ some s) (fun n => 29 - n) 0 (by simp -implicitDefEqProofs only [go_sem, Ins.v, Ins.row, Shp.v, Shp.row]) ⟨by omega, fun j h => by omega⟩ ?_
  rintro n ⟨hn, hno⟩ ih
  refine Run.unf scriptingref32_Op_l0_eq (Run.go 100 ?_)
  by_cases hend : n = 29
  · subst hend
    have e : idxV wordT s = -1 := by unfold idxV; rw [idxF_none (ws := wordT) (fun j hj => hno j hj)]; rfl
    rw [e]
    simp -implicitDefEqProofs only [go_sem, Ins.v, Ins.row, Shp.v, Shp.row]
  · have hc : ((n : Int) + 1 ≤ 29) = True := eq_true (by omega)
    have hd := data_pure ((n : Int) + 1)
    have hw := frm_word (n := n) (by omega)
    have hsw := (shp_frm ((n : Int) + 1)).1
    simp -implicitDefEqProofs only [go_sem, Ins.v, Ins.row, Shp.v, Shp.row, hc]
    refine CallS.pureF hd (by simp -implicitDefEqProofs only [go_sem, Ins.v, Ins.row, Shp.v, Shp.row]) ?_
    by_cases he : (shp ((n : Int) + 1)).word = s
    · have e : idxV wordT s = n := by unfold idxV; rw [idxF_at (by rw [hw, ← hsw, he]) hno]; rfl
      rw [e]
      simp -implicitDefEqProofs only [go_sem, Ins.v, Ins.row, Shp.v, Shp.row, he]
      simp
    · simp -implicitDefEqProofs only [go_sem, Ins.v, Ins.row, Shp.v, Shp.row, he]
      refine ⟨by omega, ih _ (n + 1) ⟨by omega, fun j hj h => ?_⟩ (by omega) ?_⟩
      · by_cases e : j = n
        · subst e
          rw [hw] at h
          injection h with h
          exact he (hsw.trans h)
        · exact hno j (by omega) h
      · have hz : ((n + 1 : Nat) : Int) = (n : Int) + 1 := by omega
        simp only [hz]
        simp -implicitDefEqProofs only [go_sem, Ins.v, Ins.row, Shp.v, Shp.row]
/-! 'Text'. -/
theorem sh_has (op : Int) (k : Nat) (x : Int) (h : (frm op).ks[k]? = some x) : (shp op).row[1 + k]? = some (.bool (!decide (x = 0))) := by
  obtain ⟨_, h1, h2, h3, h4⟩ := shp_frm op
  unfold Shp.row
  rw [h1, h2, h3, h4]
  match k with
  | 0 => simp [Frm.ks] at h ⊢; rw [h]
  | 1 => simp [Frm.ks] at h ⊢; rw [h]
  | 2 => simp [Frm.ks] at h ⊢; rw [h]
  | 3 => simp [Frm.ks] at h ⊢; rw [h]
  | k + 4 => simp [Frm.ks] at h
theorem piecesL_snoc : ∀ (ks xs : List Int) (k x : Int), ks.length = xs.length → piecesL (ks ++ [k]) (xs ++ [x]) = piecesL ks xs ++ pcs k x
  | [], [], k, x, _ => by simp [piecesL, pcs]
  | [], _ :: _, _, _, h => by cases h
  | _ :: _, [], _, _, h => by cases h
  | a :: ks, b :: xs, k, x, h => by
    rw [List.cons_append, List.cons_append, piecesL, piecesL, piecesL_snoc ks xs k x (by simpa using h), List.append_assoc]
theorem pieces_len22 : ∀ (ks xs : List Int), (∀ x ∈ xs, inB x) → (piecesL ks xs).length ≤ 22 * xs.length
  | [], xs, _ => by simp [piecesL]
  | _ :: _, [], _ => by simp [piecesL]
  | k :: ks, x :: xs, h => by
    have ih := pieces_len22 ks xs fun y hy => h y (List.mem_cons_of_mem _ hy)
    have hx := pcs_len k x (h x List.mem_cons_self)
    unfold pcs at hx
    rw [piecesL, List.length_append, List.length_cons]
    omega
theorem rtext_pure (i : Ins) (hb : inB i.a ∧ inB i.b ∧ inB i.c ∧ inB i.d) : Abs.Pure Tryz.prog 9 [i.v] (.str (textL i)) := by
  have hd := data_pure i.op
  have hf := rfields_pure i
  have hwl := frm_word_len i.op
  have hkl : (frm i.op).ks.length = 4 := rfl
  have hxl : i.fs.length = 4 := rfl
  have hxb : ∀ x ∈ i.fs, inB x := fun x hx => by
    simp only [Ins.fs, List.mem_cons, List.not_mem_nil, or_false] at hx
    rcases hx with rfl | rfl | rfl | rfl
    · exact hb.1
    · exact hb.2.1
    · exact hb.2.2.1
    · exact hb.2.2.2
  have htl : textL i = (frm i.op).word ++ piecesL (frm i.op).ks i.fs := by
    unfold textL
    cases h : isOp i.op with
    | true => rfl
    | false =>
      have : frm i.op = ⟨[], 0, 0, 0, 0, 0⟩ := by unfold frm; rw [h]; rfl
      rw [this]
      simp [Frm.ks, Ins.fs, piecesL]
  have hrow : ∀ (k : Nat) (x : Int), i.fs[k]? = some x → (intsV i.fs)[k]? = some (.int .i64 x) := fun k x h => by unfold intsV; rw [List.getElem?_map, h]; rfl
  have hhas := sh_has i.op
  have hw1 := (shp_frm i.op).1
  have hr0 : (shp i.op).row[0]? = some (.str (shp i.op).word) := rfl
  have hrl : (shp i.op).row.length = 13 := rfl
  have hil : (intsV i.fs).length = 4 := rfl
  have hpl : ∀ k, k ≤ 4 → (piecesL ((frm i.op).ks.take k) (i.fs.take k)).length ≤ 22 * k := fun k hk => by
    have := pieces_len22 ((frm i.op).ks.take k) (i.fs.take k) fun x hx => hxb x (List.mem_of_mem_take hx)
    rw [List.length_take] at this
    omega
  rw [htl]
  refine Pure.of 0 (CallS.enter scriptingref32_Text_ok (Nat.le_of_ble_eq_true rfl) (Run.go 100 ?_))
  simp -implicitDefEqProofs only [go_sem, Ins.v, Ins.row, Shp.v, Shp.row, initSl]
  refine CallS.pureF hd (by simp -implicitDefEqProofs only [go_sem, Ins.v, Ins.row, Shp.v, Shp.row]) ?_
  unfold Shp.v
  generalize (shp i.op).row = sr at *
  simp -implicitDefEqProofs only [go_sem, Ins.v, Ins.row, Shp.v, Shp.row, hrl, hr0]
  refine CallS.pureF hf (by simp -implicitDefEqProofs only [go_sem, Ins.v, Ins.row, Shp.v, Shp.row]) ?_
  generalize intsV i.fs = lr at *
  simp -implicitDefEqProofs only [go_sem, Ins.v, Ins.row, Shp.v, Shp.row, hil, hrl, hr0, Option.some.injEq, forall_eq']
  generalize (frm i.op).word = wd at *
  generalize (frm i.op).ks = ks at *
  generalize i.fs = xs at *
  rw [hw1]
  refine Run.rounds (fun (k : Nat) => ⟨[(6, .int .i64 k), (5, .str (wd ++ piecesL (ks.take k) (xs.take k))), (4, .ptr (9 * 10000 + 4) 2 0 0), (3, .ptr (9 * 10000 + 3) 1 0 0)],
      [((9 * 10000 + 4), 2, .rows 4 [lr]), ((9 * 10000 + 3), 1, .rows 13 [sr])], 3⟩) (fun k => k ≤ 4) (fun k => 4 - k) 0 (by simp -implicitDefEqProofs only [go_sem, Ins.v, Ins.row, Shp.v, Shp.row, List.take_zero, piecesL, List.append_nil]) (Nat.zero_le _) ?_
  intro k hk ih
  refine Run.unf scriptingref32_Text_l0_eq (Run.go 100 ?_)
  by_cases hend : k = 4
  · subst hend
    rw [List.take_of_length_le (by omega), List.take_of_length_le (by omega)]
    simp -implicitDefEqProofs only [go_sem, Ins.v, Ins.row, Shp.v, Shp.row]
  · have hc : ((k : Int) < 4) = True := eq_true (by omega)
    have h0 : ((0 : Int) ≤ (k : Int)) = True := eq_true (by omega)
    have hz : ((k + 1 : Nat) : Int) = (k : Int) + 1 := by omega
    obtain ⟨κ, hκ⟩ : ∃ κ, ks[k]? = some κ := ⟨ks[k]'(by omega), by simp [hkl]⟩
    obtain ⟨x, hx⟩ : ∃ x, xs[k]? = some x := ⟨xs[k]'(by omega), by simp [hxl]⟩
    have hh := hhas k κ hκ
    have hr := hrow k x hx
    rw [← Nat.mul_one k] at hh hr
    have hsn : piecesL (ks.take (k + 1)) (xs.take (k + 1)) = piecesL (ks.take k) (xs.take k) ++ pcs κ x := by
      rw [List.take_add_one, List.take_add_one, hκ, hx]
      exact piecesL_snoc _ _ _ _ (by simp [hkl, hxl])
    have hpk := hpl k hk
    by_cases hz0 : κ = 0
    · have hp : pcs κ x = [] := by unfold pcs; rw [if_pos hz0]
      rw [hp, List.append_nil] at hsn
      simp -implicitDefEqProofs only [go_sem, Ins.v, Ins.row, Shp.v, Shp.row, hc, h0, hh, hz0, Option.some.injEq, forall_eq']
      refine ⟨by omega, ih _ (k + 1) (by omega) (by omega) ?_⟩
      simp only [hz, hsn]
      simp -implicitDefEqProofs only [go_sem, Ins.v, Ins.row, Shp.v, Shp.row]
    · have hp : pcs κ x = 32 :: Lib.itoa x := by unfold pcs; rw [if_neg hz0]
      rw [hp] at hsn
      have hxi := hxb x (List.mem_of_getElem? hx)
      have hdec := decimal_pure x ⟨hxi.1, hxi.2⟩
      have hil' := itoa_len hxi.1 hxi.2
      simp -implicitDefEqProofs only [go_sem, Ins.v, Ins.row, Shp.v, Shp.row, hc, h0, hh, hz0, hr, Option.some.injEq, forall_eq']
      refine ⟨by omega, CallS.pureF hdec (by simp -implicitDefEqProofs only [go_sem, Ins.v, Ins.row, Shp.v, Shp.row]) ?_⟩
      simp -implicitDefEqProofs only [go_sem, Ins.v, Ins.row, Shp.v, Shp.row]
      refine ⟨by omega, by omega, ih _ (k + 1) (by omega) (by omega) ?_⟩
      simp only [hz, hsn]
      simp -implicitDefEqProofs only [go_sem, Ins.v, Ins.row, Shp.v, Shp.row, List.append_assoc, List.cons_append, List.nil_append]

/-! 'Parse'. -/
theorem drop_headA {α : Type} {s : List α} {i : Nat} {c : α} (h : s[i]? = some c) : s.drop i = c :: s.drop (i + 1) := drop_head h
theorem readC_zero {ks : List Int} {L : List (List UInt8)} : readC (0 :: ks) L = (readC ks L).map fun p => (0 :: p.1, p.2) := by rw [readC.eq_def]; simp
theorem readC_nil {k : Int} {ks : List Int} (h : ¬ k = 0) : readC (k :: ks) [] = none := by rw [readC.eq_def]; simp [h]
theorem readC_ok {k : Int} {ks : List Int} {w : List UInt8} {r : List (List UInt8)} {n : Int} (h : ¬ k = 0) (hn : numC w = some n) : readC (k :: ks) (w :: r) = (readC ks r).map fun p => (n :: p.1, p.2) := by rw [readC.eq_def]; simp [h, hn]
theorem readC_err {k : Int} {ks : List Int} {w : List UInt8} {r : List (List UInt8)} (h : ¬ k = 0) (hn : numC w = none) : readC (k :: ks) (w :: r) = none := by rw [readC.eq_def]; simp [h, hn]
theorem map_snoc (T : Option (List Int × List (List UInt8))) (xs : List Int) (n : Int) : (T.map fun p => (n :: p.1, p.2)).map (fun p => (xs ++ p.1, p.2)) = T.map fun p => ((xs ++ [n]) ++ p.1, p.2) := by
  cases T with
  | none => rfl
  | some q => simp
/-- The fields read, the others zero. -/
def rowX (xs : List Int) : List V := (xs ++ List.replicate (4 - xs.length) 0).map (V.int .i64)
theorem rowX_put (xs : List Int) (n : Int) (h : xs.length < 4) : putCells (rowX xs) xs.length [.int .i64 n] = rowX (xs ++ [n]) := by
  unfold rowX putCells
  have e : 4 - xs.length = (3 - xs.length) + 1 := by omega
  have e2 : 4 - (xs ++ [n]).length = 3 - xs.length := by rw [List.length_append, List.length_singleton]; omega
  rw [e, e2, List.replicate_succ]
  have hd : List.drop (xs.length + 1) (List.map (V.int .i64) xs ++ V.int .i64 0 :: List.replicate (3 - xs.length) (V.int .i64 0)) = List.replicate (3 - xs.length) (V.int .i64 0) := by
    rw [List.drop_append]; simp
  simp [hd]
theorem rowX_zero (xs : List Int) (h : xs.length < 4) : rowX (xs ++ [0]) = rowX xs := by
  unfold rowX
  have e : 4 - xs.length = (3 - xs.length) + 1 := by omega
  have e2 : 4 - (xs ++ [(0 : Int)]).length = 3 - xs.length := by rw [List.length_append, List.length_singleton]; omega
  rw [e, e2, List.replicate_succ]
  simp
theorem rowX_len (xs : List Int) (h : xs.length ≤ 4) : (rowX xs).length = 4 := by unfold rowX; simp; omega

theorem rparse_pure (s : List UInt8) (hs : s.length ≤ 100000) : Abs.Pure Tryz.prog 7 [.str s] (parseV s) := by
  have hsp := words_pure s hs
  have hlen := fun w (h : w ∈ Lib.split s [32]) => split_len h
  unfold parseV
  cases hl : Lib.split s [32] with
  | nil => exact absurd hl (split_ne s)
  | cons w r =>
  have hcnt := split_count s
  rw [hl] at hsp hlen hcnt
  have hop := rop_pure w
  simp only
  have hz : ∀ l : List (List UInt8), rowsz (l.map fun x => [V.str x]) 1 = True := fun l => eq_true fun r hr => by obtain ⟨y, _, rfl⟩ := List.mem_map.1 hr; rfl
  have hll : ∀ l : List (List UInt8), (l.map fun x => [V.str x]).length = l.length := fun l => List.length_map ..
  have hp1 : ((0 : Int) < ((r.length + 1 : Nat) : Int)) = True := eq_true (by omega)
  have hidx : 0 ≤ idxV wordT w → isOp (idxV wordT w + 1) = true ∧ (frm (idxV wordT w + 1)).word = w := fun h => by
    unfold idxV at h ⊢
    cases hf : idxF w wordT with
    | none => rw [hf] at h; simp at h
    | some k =>
      have h1 := idxF_some hf
      have hk : k < 29 := (List.getElem?_eq_some_iff.1 h1).1
      rw [frm_word hk] at h1
      injection h1 with h1
      refine ⟨?_, h1⟩
      unfold isOp
      simp
      omega
  have hsame : ∀ op, isOp op = true → (frm op).word = w → parseI op s (readL (frm op).ks r) = rparseI op (readC (frm op).ks r) := fun op h1 h2 => parse_same hl h1 h2
  generalize hix : idxV wordT w = ix at *
  refine Pure.of 0 (CallS.enter scriptingref32_Parse_ok (Nat.le_of_ble_eq_true rfl) (Run.go 100 ?_))
  simp -implicitDefEqProofs only [go_sem, Ins.v, Ins.row, Shp.v, Shp.row, initSl]
  refine CallS.pureF hsp (by simp -implicitDefEqProofs only [go_sem, Ins.v, Ins.row, Shp.v, Shp.row]) ?_
  simp -implicitDefEqProofs only [go_sem, Ins.v, Ins.row, Shp.v, Shp.row, List.map_cons, hz, hll, hp1]
  refine CallS.pureF hop (by simp -implicitDefEqProofs only [go_sem, Ins.v, Ins.row, Shp.v, Shp.row]) ?_
  by_cases h0 : 0 ≤ ix
  case neg =>
    rw [if_neg h0]
    simp -implicitDefEqProofs only [go_sem, Ins.v, Ins.row, Shp.v, Shp.row, h0]
    rfl
  rw [if_pos h0]
  obtain ⟨hio, hfw⟩ := hidx h0
  rw [hsame _ hio hfw]
  have hdat := data_pure (ix + 1)
  generalize hopp : ix + 1 = op at *
  have hhas := sh_has op
  have hkl : (frm op).ks.length = 4 := rfl
  have hrl : (shp op).row.length = 13 := rfl
  simp -implicitDefEqProofs only [go_sem, Ins.v, Ins.row, Shp.v, Shp.row, h0]
  refine CallS.pureF hdat (by simp -implicitDefEqProofs only [go_sem, Ins.v, Ins.row, Shp.v, Shp.row]) ?_
  unfold Shp.v
  generalize (shp op).row = sr at *
  simp -implicitDefEqProofs only [go_sem, Ins.v, Ins.row, Shp.v, Shp.row, hrl]
  generalize hW : w :: r = W at *
  have hrow : ∀ (k : Nat) (x : List UInt8), W[k]? = some x → ([V.str w] :: r.map fun x => [V.str x])[k]? = some [.str x] := fun k x h => by
    rw [← hW] at h
    have : ([V.str w] :: r.map fun x => [V.str x]) = (w :: r).map fun x => [V.str x] := rfl
    rw [this, List.getElem?_map, h]; rfl
  have hel : ([V.str w] :: r.map fun x => [V.str x]).length = W.length := by rw [← hW]; simp
  have hesz : rowsz ([V.str w] :: r.map fun x => [V.str x]) 1 = True := by
    have : ([V.str w] :: r.map fun x => [V.str x]) = (w :: r).map fun x => [V.str x] := rfl
    rw [this]; exact hz _
  have hWd : W.drop 1 = r := by rw [← hW]; rfl
  have hW1 : 1 ≤ W.length := by rw [← hW]; simp
  generalize ([V.str w] :: r.map fun x => [V.str x]) = es at *
  have hT : readC (frm op).ks r = (readC ((frm op).ks.drop 0) (W.drop 1)).map fun p => (([] : List Int) ++ p.1, p.2) := by
    rw [hWd, List.drop_zero]; cases readC (frm op).ks r <;> rfl
  generalize readC (frm op).ks r = T at *
  generalize (frm op).ks = ks at *
  clear hsame hidx hop hsp hl hdat hix hopp hfw hW hWd
  refine Run.rounds (fun (x : Nat × List Int × Nat) => ⟨[(10, .int .i64 x.1), (9, .int .i64 x.2.2), (8, .ptr (7 * 10000 + 8) 2 0 0), (7, .ptr (7 * 10000 + 7) 1 0 0), (5, .int .i64 op), (4, .isl es), (2, .ptr (7 * 10000 + 2) 0 0 0)],
      [((7 * 10000 + 8), 2, .rows 4 [rowX x.2.1]), ((7 * 10000 + 7), 1, .rows 13 [sr]), ((7 * 10000 + 2), 0, .rows 5 [[.int .i64 0, .int .i64 0, .int .i64 0, .int .i64 0, .int .i64 0]])], 3⟩)
    (fun x => x.1 ≤ 4 ∧ x.2.1.length = x.1 ∧ 1 ≤ x.2.2 ∧ x.2.2 ≤ W.length ∧ T = (readC (ks.drop x.1) (W.drop x.2.2)).map fun p => (x.2.1 ++ p.1, p.2)) (fun x => 4 - x.1) (0, [], 1) (by simp -implicitDefEqProofs only [go_sem, Ins.v, Ins.row, Shp.v, Shp.row, rowX, List.nil_append, List.length_nil, List.replicate, List.map_cons, List.map_nil]) ⟨Nat.zero_le _, rfl, Nat.le_refl _, hW1, hT⟩ ?_
  clear hT hW1
  rintro ⟨k, xs, at'⟩ ⟨hk, hxl, ha1, ha2, hT⟩ ih
  simp only at hk hxl ha1 ha2 hT ih ⊢
  refine Run.unf scriptingref32_Parse_l0_eq (Run.go 100 ?_)
  by_cases hend : k = 4
  · subst hend
    clear ih
    obtain ⟨a, b, c, d, rfl⟩ : ∃ a b c d, xs = [a, b, c, d] := by
      match xs, hxl with
      | [a, b, c, d], _ => exact ⟨a, b, c, d, rfl⟩
    rw [List.drop_of_length_le (by omega : ks.length ≤ 4)] at hT
    have hT : T = some ([a, b, c, d], W.drop at') := hT
    rw [hT]
    by_cases hat : at' = W.length
    · have hc : (((at' : Nat) : Int) = (W.length : Int)) = True := eq_true (by omega)
      have hck := rcheck_pure ⟨op, a, b, c, d⟩
      rw [List.drop_of_length_le (by omega : W.length ≤ at')]
      simp -implicitDefEqProofs only [go_sem, Ins.v, Ins.row, Shp.v, Shp.row, hel, hc, rowX, List.length_cons, List.length_nil, List.replicate, List.map_cons, List.map_nil, List.append_nil]
      refine CallS.pureF hck (by simp -implicitDefEqProofs only [go_sem, Ins.v, Ins.row, Shp.v, Shp.row]) ?_
      by_cases hc : chk ⟨op, a, b, c, d⟩ = 0
      · have e : rparseI op (some ([a, b, c, d], [])) = .tup [Ins.v ⟨op, a, b, c, d⟩, .int .i64 0] := by simp only [rparseI, if_pos hc]
        simp -implicitDefEqProofs only [go_sem, Ins.v, Ins.row, Shp.v, Shp.row, hc]
        rw [e]; rfl
      · have e : rparseI op (some ([a, b, c, d], [])) = .tup [zI, .int .i64 (chk ⟨op, a, b, c, d⟩)] := by simp only [rparseI, if_neg hc]
        simp -implicitDefEqProofs only [go_sem, Ins.v, Ins.row, Shp.v, Shp.row, hc]
        rw [e]; rfl
    · have hc : (((at' : Nat) : Int) = (W.length : Int)) = False := eq_false (by omega)
      obtain ⟨x, y, hxy⟩ : ∃ x y, W.drop at' = x :: y := List.exists_cons_of_ne_nil (by
        intro h; have := congrArg List.length h; simp at this; omega)
      rw [hxy]
      simp -implicitDefEqProofs only [go_sem, Ins.v, Ins.row, Shp.v, Shp.row, hel, hc]
      rfl
  · have hk4 : k < 4 := by omega
    have hc : ((k : Int) < 4) = True := eq_true (by omega)
    have h0 : ((0 : Int) ≤ (k : Int)) = True := eq_true (by omega)
    have hz1 : ((k + 1 : Nat) : Int) = (k : Int) + 1 := by omega
    obtain ⟨κ, hκ⟩ : ∃ κ, ks[k]? = some κ := ⟨ks[k]'(by omega), by simp [hkl]⟩
    have hh := hhas k κ hκ
    have hkd : ks.drop k = κ :: ks.drop (k + 1) := drop_headA hκ
    rw [hkd] at hT
    rw [← Nat.mul_one k] at hh
    have hrxl := rowX_len xs (by omega)
    by_cases hz0 : κ = 0
    · subst hz0
      rw [readC_zero, map_snoc] at hT
      simp -implicitDefEqProofs only [go_sem, Ins.v, Ins.row, Shp.v, Shp.row, hc, h0, hh, Option.some.injEq, forall_eq']
      refine ⟨by omega, ih _ (k + 1, xs ++ [0], at') ⟨by simp only; omega, by simp [hxl], ha1, ha2, hT⟩ (by simp only; omega) ?_⟩
      simp only [hz1, rowX_zero xs (by omega)]
      simp -implicitDefEqProofs only [go_sem, Ins.v, Ins.row, Shp.v, Shp.row]
    · by_cases hat : at' = W.length
      · have hc2 : ((W.length : Int) ≤ ((at' : Nat) : Int)) = True := eq_true (by omega)
        have : W.drop at' = [] := List.drop_of_length_le (by omega)
        rw [this, readC_nil hz0] at hT
        simp -implicitDefEqProofs only [go_sem, Ins.v, Ins.row, Shp.v, Shp.row, hc, h0, hh, hz0, hel, hc2, Option.some.injEq, forall_eq']
        rw [hT]; rfl
      · have hc2 : ((W.length : Int) ≤ ((at' : Nat) : Int)) = False := eq_false (by omega)
        have hc3 : ((at' : Int) < (W.length : Int)) = True := eq_true (by omega)
        have hc4 : ((0 : Int) ≤ (at' : Int)) = True := eq_true (by omega)
        obtain ⟨v, hv⟩ : ∃ v, W[at']? = some v := ⟨W[at']'(by omega), by simp⟩
        have hrv := hrow at' v hv
        have hWdd : W.drop at' = v :: W.drop (at' + 1) := drop_headA hv
        rw [hWdd] at hT
        obtain ⟨z, b, hnum, hb1, hb2⟩ := number_pure v (Nat.le_trans (hlen v (List.mem_of_getElem? hv)) hs)
        simp -implicitDefEqProofs only [go_sem, Ins.v, Ins.row, Shp.v, Shp.row, hc, h0, hh, hz0, hel, hc2, hc3, hc4, hesz, hrv, Option.some.injEq, forall_eq']
        refine ⟨by omega, CallS.pureF hnum (by simp -implicitDefEqProofs only [go_sem, Ins.v, Ins.row, Shp.v, Shp.row]) ?_⟩
        cases b with
        | false =>
          rw [readC_err hz0 (hb2 rfl)] at hT
          simp -implicitDefEqProofs only [go_sem, Ins.v, Ins.row, Shp.v, Shp.row]
          rw [hT]; rfl
        | true =>
          rw [readC_ok hz0 (hb1 rfl), map_snoc] at hT
          have hput := rowX_put xs z (by omega)
          rw [hxl, ← Nat.mul_one k] at hput
          have hput : List.take (k * 1) (rowX xs) ++ [V.int .i64 z] ++ List.drop (k * 1 + 1) (rowX xs) = rowX (xs ++ [z]) := hput
          have hz2 : ((at' + 1 : Nat) : Int) = (at' : Int) + 1 := by omega
          simp -implicitDefEqProofs only [go_sem, Ins.v, Ins.row, Shp.v, Shp.row, h0, hc, hrxl]
          rw [hput]
          refine ⟨by omega, ⟨by omega, by omega⟩, ⟨by omega, by omega⟩, ih _ (k + 1, xs ++ [z], at' + 1) ⟨by simp only; omega, by simp [hxl], by simp only; omega, by simp only; omega, hT⟩ (by simp only; omega) ?_⟩
          simp only [hz1, hz2]
          simp -implicitDefEqProofs only [go_sem, Ins.v, Ins.row, Shp.v, Shp.row]
end Go.Proofs.YtcdfefcpbaiolaaGreatDoor
