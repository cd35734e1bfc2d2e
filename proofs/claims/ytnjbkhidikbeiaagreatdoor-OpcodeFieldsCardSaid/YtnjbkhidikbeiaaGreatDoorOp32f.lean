/-
  OpcodeFields. No condition.
-/
import Derived.Test.YtnjbkhidikbeiaaGreatDoorTxtF
import Derived.Test.YtnjbkhidikbeiaaGreatDoorNml
import Derived.Test.YtnjbkhidikbeiaaGreatDoorAw32
import Derived.Test.YtnjbkhidikbeiaaGreatDoorOpc3
import Derived.Test.YtnjbkhidikbeiaaGreatDoorArg
set_option linter.unusedVariables false
set_option linter.unusedSimpArgs false
set_option maxRecDepth 100000
set_option maxHeartbeats 0
namespace Go.Proofs.YtnjbkhidikbeiaaGreatDoor
open Go Go.Abs
attribute [local irreducible] CallS Run
-- EV: Ins.v, Ins.row

/-! The texts between blanks, behind the first one. -/
def wordsF : Option (List UInt8) → List UInt8 → List (List UInt8)
  | none, [] => []
  | some w, [] => [w]
  | none, c :: r => if c = 32 then wordsF (some []) r else wordsF none r
  | some w, c :: r => if c = 32 then w :: wordsF (some []) r else wordsF (some (w ++ [c])) r
theorem wordsF_none : ∀ (w r : List UInt8), (32 : UInt8) ∉ w → wordsF none (w ++ r) = wordsF none r
  | [], r, _ => rfl
  | c :: w, r, h => by
    rw [List.cons_append, wordsF, if_neg fun e => h (by rw [e]; exact List.mem_cons_self)]
    exact wordsF_none w r fun e => h (List.mem_cons_of_mem _ e)
theorem wordsF_some : ∀ (w r u : List UInt8), (32 : UInt8) ∉ w → wordsF (some u) (w ++ r) = wordsF (some (u ++ w)) r
  | [], r, u, _ => by simp
  | c :: w, r, u, h => by
    rw [List.cons_append, wordsF, if_neg fun e => h (by rw [e]; exact List.mem_cons_self), wordsF_some w r (u ++ [c]) fun e => h (List.mem_cons_of_mem _ e)]
    simp
theorem wordsF_pieces : ∀ (ks xs : List Int), wordsF none (piecesL ks xs) = wordsL ks xs ∧ ∀ u, wordsF (some u) (piecesL ks xs) = u :: wordsL ks xs
  | [], _ => ⟨rfl, fun _ => rfl⟩
  | _ :: _, [] => ⟨rfl, fun _ => rfl⟩
  | k :: ks, x :: xs => by
    obtain ⟨h1, h2⟩ := wordsF_pieces ks xs
    rw [piecesL, wordsL]
    by_cases hk : k = 0
    · rw [if_pos hk, if_pos hk, List.nil_append]; exact ⟨h1, h2⟩
    · rw [if_neg hk, if_neg hk, List.cons_append]
      refine ⟨?_, fun u => ?_⟩
      · rw [wordsF, if_pos rfl, wordsF_some _ _ _ (itoa_in x), List.nil_append, h2]
      · rw [wordsF, if_pos rfl, wordsF_some _ _ _ (itoa_in x), List.nil_append, h2]
theorem wordsF_text {i : Ins} (h : isOp i.op = true) : wordsF none (textL i) = wordsL (frm i.op).ks i.fs := by
  unfold textL
  rw [if_pos h, wordsF_none _ _ (word_in i.op)]
  exact (wordsF_pieces _ _).1

def srow (x : List UInt8) : List V := [.str x]
/-- What is open at a place: the text from the last blank on. -/
def openAt (s : List UInt8) (f : Option Nat) (k : Nat) : Option (List UInt8) := f.map fun a => (s.drop a).take (k - a)
def fromV : Option Nat → Int
  | none => -1
  | some a => a

theorem lfields_pure (s : List UInt8) (hs : s.length ≤ 100000) : Abs.Pure Tryz.prog 6 [.str s] (.isl ((wordsF none s).map srow)) := by
  refine Pure.of 1 (CallS.enter scriptinglaw32_fields_ok (Nat.le_of_ble_eq_true rfl) (Run.go 100 ?_))
  simp -implicitDefEqProofs only [go_sem, Ins.v, Ins.row, initSl]
  refine Run.roundsK (fun (x : Nat × Option Nat × List (List UInt8) × Nat × Nat) => ⟨[(5, .int .i64 x.1), (4, .int .i64 (fromV x.2.1)), (3, .sl (6 * 10000 + 6) x.2.2.2.1 0 x.2.2.1.length), (0, .str s)], [((6 * 10000 + 6), x.2.2.2.1, .rows 1 (x.2.2.1.map srow))], x.2.2.2.2⟩)
    (fun x => (x.1 ≤ s.length ∧ (∀ a, x.2.1 = some a → a ≤ x.1) ∧ x.2.2.1.length ≤ x.1 ∧ wordsF none s = x.2.2.1 ++ wordsF (openAt s x.2.1 x.1) (s.drop x.1)) ∨ (x.1 = s.length + 1 ∧ x.2.2.1.length ≤ x.1 ∧ wordsF none s = x.2.2.1)) (fun x => s.length + 1 - x.1) (0, none, [], 0, 1) ?_ ?_ ?_
  · exact .turn id ⟨.refl _, .refl _, .refl _, .refl _, trivial⟩ (.at 0 rfl rfl (.refl _) trivial)
  · exact .inl ⟨Nat.zero_le _, fun a h => (by cases h), Nat.zero_le _, by simp [openAt]⟩
  rintro ⟨k, f, out, st, n⟩ hJ ih
  dsimp only at hJ ih ⊢
  refine Run.unf scriptinglaw32_fields_l0_eq (Run.go 100 ?_)
  rcases hJ with ⟨hk, hf, ho, hw⟩ | ⟨hk, ho, hw⟩
  rotate_left
  · have c1 : ((k : Int) ≤ (s.length : Int)) = False := eq_false (by omega)
    rw [hw]
    simp -implicitDefEqProofs only [go_sem, Ins.v, Ins.row, c1]
    rw [List.map_map]
    exact List.map_congr_left fun x _ => by simp [srow, frz, V.sub]
  have c1 : ((k : Int) ≤ (s.length : Int)) = True := eq_true (by omega)
  have c0 : ((0 : Int) ≤ (k : Int)) = True := eq_true (by omega)
  have hcast : ((k : Int) + 1) = ((k + 1 : Nat) : Int) := rfl
  by_cases hb : k = s.length ∨ s[k]? = some 32
  · have hd : s.drop k = [] ∧ k = s.length ∨ ∃ r, s.drop k = 32 :: r ∧ s.drop (k + 1) = r ∧ k < s.length := by
      rcases hb with hb | hb
      · exact .inl ⟨by rw [hb]; simp, hb⟩
      · obtain ⟨h1, h2⟩ := List.getElem?_eq_some_iff.1 hb
        exact .inr ⟨s.drop (k + 1), by rw [List.drop_eq_getElem_cons h1, h2], rfl, h1⟩
    have e3 : (((32 : UInt8).toNat : Int) = 32) = True := eq_true (by decide)
    cases f with
    | none =>
      have hnext : (k + 1 ≤ s.length ∧ (∀ a, some (k + 1) = some a → a ≤ k + 1) ∧ out.length ≤ k + 1 ∧ wordsF none s = out ++ wordsF (openAt s (some (k + 1)) (k + 1)) (s.drop (k + 1))) ∨ (k + 1 = s.length + 1 ∧ out.length ≤ k + 1 ∧ wordsF none s = out) := by
        rcases hd with ⟨h1, h2⟩ | ⟨r, h1, h2, h3⟩
        · exact .inr ⟨by omega, by omega, by rw [hw, h1]; simp [openAt, wordsF]⟩
        · refine .inl ⟨by omega, fun a h => by injection h with h; omega, by omega, ?_⟩
          rw [hw, h1, h2]
          simp [openAt, wordsF]
      have fin := fun s' hw' => ih s' (k + 1, some (k + 1), out, st, n) hnext (by dsimp only; omega) hw'
      clear ih
      by_cases e : k = s.length
      · have e1 : ((k : Int) = (s.length : Int)) = True := eq_true (by omega)
        simp -implicitDefEqProofs only [go_sem, Ins.v, Ins.row, c1, c0, e1, fromV]
        exact ⟨⟨by omega, by omega⟩, ⟨by omega, by omega⟩, fin _ (.turn id ⟨.refl _, .refl _, .refl _, .refl _, trivial⟩ (.at 0 rfl rfl (.refl _) trivial))⟩
      · have e1 : ((k : Int) = (s.length : Int)) = False := eq_false (by omega)
        have e2 : s[k]? = some 32 := hb.resolve_left e
        simp -implicitDefEqProofs only [go_sem, Ins.v, Ins.row, c1, c0, e1, e2, e3, fromV]
        exact ⟨⟨by omega, by omega⟩, ⟨by omega, by omega⟩, fin _ (.turn id ⟨.refl _, .refl _, .refl _, .refl _, trivial⟩ (.at 0 rfl rfl (.refl _) trivial))⟩
    | some a =>
      have ha := hf a rfl
      have a0 : ((0 : Int) ≤ (a : Int)) = True := eq_true (by omega)
      have a1 : ((a : Int) ≤ (k : Int)) = True := eq_true (by omega)
      have a2 : ((k : Int) - (a : Int)).toNat = k - a := by omega
      have hnext : (k + 1 ≤ s.length ∧ (∀ a, some (k + 1) = some a → a ≤ k + 1) ∧ (out ++ [(s.drop a).take (k - a)]).length ≤ k + 1 ∧ wordsF none s = (out ++ [(s.drop a).take (k - a)]) ++ wordsF (openAt s (some (k + 1)) (k + 1)) (s.drop (k + 1))) ∨ (k + 1 = s.length + 1 ∧ (out ++ [(s.drop a).take (k - a)]).length ≤ k + 1 ∧ wordsF none s = out ++ [(s.drop a).take (k - a)]) := by
        have hl : (out ++ [(s.drop a).take (k - a)]).length ≤ k + 1 := by simp; omega
        rcases hd with ⟨h1, h2⟩ | ⟨r, h1, h2, h3⟩
        · exact .inr ⟨by omega, hl, by rw [hw, h1]; simp [openAt, wordsF]⟩
        · refine .inl ⟨by omega, fun a h => by injection h with h; omega, hl, ?_⟩
          rw [hw, h1, h2]
          simp [openAt, wordsF]
      have fin := fun s' hw' => ih s' (k + 1, some (k + 1), out ++ [(s.drop a).take (k - a)], n, n + 1) hnext (by dsimp only; omega) hw'
      clear ih
      generalize hX : (s.drop a).take (k - a) = X at *
      by_cases e : k = s.length
      · have e1 : ((k : Int) = (s.length : Int)) = True := eq_true (by omega)
        simp -implicitDefEqProofs only [go_sem, Ins.v, Ins.row, c1, c0, e1, a0, a1, a2, hX, fromV]
        refine ⟨by omega, ⟨by omega, by omega⟩, ⟨by omega, by omega⟩, fin _ (.turn id ⟨.refl _, .refl _, .sl' (by simp), .refl _, trivial⟩ (.at 0 rfl rfl (.of_eq (by simp [srow])) trivial))⟩
      · have e1 : ((k : Int) = (s.length : Int)) = False := eq_false (by omega)
        have e2 : s[k]? = some 32 := hb.resolve_left e
        simp -implicitDefEqProofs only [go_sem, Ins.v, Ins.row, c1, c0, e1, e2, e3, a0, a1, a2, hX, fromV]
        refine ⟨by omega, ⟨by omega, by omega⟩, ⟨by omega, by omega⟩, fin _ (.turn id ⟨.refl _, .refl _, .sl' (by simp), .refl _, trivial⟩ (.at 0 rfl rfl (.of_eq (by simp [srow])) trivial))⟩
  · have hk2 : k < s.length := by
      rcases Nat.lt_or_ge k s.length with h | h
      · exact h
      · exact (hb (.inl (by omega))).elim
    obtain ⟨y, hy⟩ : ∃ y, s[k]? = some y := ⟨s[k], by simp⟩
    have hy32 : ¬ y = 32 := fun h => hb (.inr (by rw [hy, h]))
    have hdk : s.drop k = y :: s.drop (k + 1) := by
      obtain ⟨h1, h2⟩ := List.getElem?_eq_some_iff.1 hy
      rw [List.drop_eq_getElem_cons h1, h2]
    have hnext : (k + 1 ≤ s.length ∧ (∀ a, f = some a → a ≤ k + 1) ∧ out.length ≤ k + 1 ∧ wordsF none s = out ++ wordsF (openAt s f (k + 1)) (s.drop (k + 1))) ∨ (k + 1 = s.length + 1 ∧ out.length ≤ k + 1 ∧ wordsF none s = out) := by
      refine .inl ⟨by omega, fun a h => by have := hf a h; omega, by omega, ?_⟩
      rw [hw, hdk]
      cases f with
      | none => simp [openAt, wordsF, hy32]
      | some a =>
        have ha := hf a rfl
        have : (s.drop a).take (k + 1 - a) = (s.drop a).take (k - a) ++ [y] := by
          rw [show k + 1 - a = (k - a) + 1 from by omega, List.take_add_one, List.getElem?_drop, show a + (k - a) = k from by omega, hy]
          rfl
        simp [openAt, wordsF, hy32, this]
    have fin := fun s' hw' => ih s' (k + 1, f, out, st, n) hnext (by dsimp only; omega) hw'
    clear ih
    have e1 : ((k : Int) = (s.length : Int)) = False := eq_false (by omega)
    have e4 : ((y.toNat : Int) = 32) = False := eq_false fun h => hy32 (UInt8.toNat_inj.1 (by show y.toNat = 32; omega))
    simp -implicitDefEqProofs only [go_sem, Ins.v, Ins.row, c1, c0, e1, hy, e4]
    exact ⟨⟨by omega, by omega⟩, fin _ (.turn id ⟨.refl _, .refl _, .refl _, .refl _, trivial⟩ (.at 0 rfl rfl (.refl _) trivial))⟩

theorem ins_ofX {row : List V} (h : Typed Tryz.prog 23 row) : ∃ i : Ins, row = i.row ∧ inB i.a ∧ inB i.b ∧ inB i.c ∧ inB i.d := by
  have h := h.fields Tryz.underlying23
  obtain ⟨a1, b1, rfl, h1, a2, b2, rfl, h2, a3, b3, rfl, h3, a4, b4, rfl, h4, a5, b5, rfl, h5, rfl⟩ := h
  obtain ⟨n1, rfl, _⟩ := h1.int_inv Tryz.underlying3
  obtain ⟨n2, rfl, g2⟩ := h2.int_inv Tryz.underlying3
  obtain ⟨n3, rfl, g3⟩ := h3.int_inv Tryz.underlying3
  obtain ⟨n4, rfl, g4⟩ := h4.int_inv Tryz.underlying3
  obtain ⟨n5, rfl, g5⟩ := h5.int_inv Tryz.underlying3
  have key : ∀ {n : Int}, (Lit.int .i64 n).wf = true → inB n := fun {n} h => by
    simp only [Lit.wf, Bool.and_eq_true, decide_eq_true_eq] at h
    have e1 : IntKind.min .i64 = -9223372036854775808 := by decide
    have e2 : IntKind.max .i64 = 9223372036854775807 := by decide
    rw [e1, e2] at h
    exact h
  exact ⟨⟨n1, n2, n3, n4, n5⟩, rfl, key g2, key g3, key g4, key g5⟩
theorem fld_facts {i : Ins} (h : chk i = 0) : (1 ≤ i.op ∧ i.op ≤ 29) ∧ (0 ≤ i.a ∧ i.a ≤ 4095) ∧ (-1 ≤ i.b ∧ i.b ≤ 16383) ∧ (-1 ≤ i.c ∧ i.c ≤ 32767) ∧ (0 ≤ i.d ∧ i.d ≤ 19) := by
  obtain ⟨h1, h2, h3, h4, h5, h6, h7, h8, h9, h10⟩ := chk_ok h
  have := of_decide_eq_true (show decide (1 ≤ i.op ∧ i.op ≤ 29) = true from h1)
  omega

/-- The fields that are written. -/
def zsOf : List Int → List Int → List Int
  | k :: ks, x :: xs => if k = 0 then zsOf ks xs else x :: zsOf ks xs
  | _, _ => []
theorem words_zs : ∀ ks xs : List Int, wordsL ks xs = (zsOf ks xs).map Lib.itoa
  | [], _ => rfl
  | _ :: _, [] => rfl
  | k :: ks, x :: xs => by
    rw [wordsL, zsOf]
    split
    · exact words_zs ks xs
    · rw [List.map_cons, words_zs ks xs]
theorem zs_mem : ∀ {ks xs : List Int} {z : Int}, z ∈ zsOf ks xs → z ∈ xs
  | [], _, z, h => by simp [zsOf] at h
  | _ :: _, [], z, h => by simp [zsOf] at h
  | k :: ks, x :: xs, z, h => by
    rw [zsOf] at h
    split at h
    · exact List.mem_cons_of_mem _ (zs_mem h)
    · rcases List.mem_cons.1 h with rfl | h
      · exact List.mem_cons_self
      · exact List.mem_cons_of_mem _ (zs_mem h)
theorem zs_len : ∀ (ks xs : List Int), (zsOf ks xs).length ≤ xs.length
  | [], _ => by simp [zsOf]
  | _ :: _, [] => by simp [zsOf]
  | k :: ks, x :: xs => by
    rw [zsOf]
    have := zs_len ks xs
    split <;> simp <;> omega
theorem zs_none : ∀ {ks xs : List Int}, ks.length = xs.length → (∀ p ∈ ks.zip xs, p.1 = 0 → p.2 = 0) → zsOf ks xs = [] → xs.sum = 0
  | [], [], _, _, _ => rfl
  | [], _ :: _, h, _, _ => by cases h
  | _ :: _, [], h, _, _ => by cases h
  | k :: ks, x :: xs, hl, hz, h => by
    rw [zsOf] at h
    split at h
    · rename_i hk
      have hx := hz (k, x) (by rw [List.zip_cons_cons]; exact List.mem_cons_self) hk
      simp only at hx
      rw [hx, List.sum_cons, zs_none (by simpa using hl) (fun p hp => hz p (by rw [List.zip_cons_cons]; exact List.mem_cons_of_mem _ hp)) h]
      rfl
    · cases h
theorem zs_step : ∀ {ks xs : List Int} {z : Int} {r : List Int}, ks.length = xs.length → (∀ p ∈ ks.zip xs, p.1 = 0 → p.2 = 0) → zsOf ks xs = z :: r → ∃ q, xs[q]? = some z ∧ zsOf (ks.drop (q + 1)) (xs.drop (q + 1)) = r ∧ xs.sum = z + (xs.drop (q + 1)).sum
  | [], _, z, r, _, _, h => by simp [zsOf] at h
  | _ :: _, [], z, r, _, _, h => by simp [zsOf] at h
  | k :: ks, x :: xs, z, r, hl, hz, h => by
    have hz' : ∀ p ∈ ks.zip xs, p.1 = 0 → p.2 = 0 := fun p hp => hz p (by rw [List.zip_cons_cons]; exact List.mem_cons_of_mem _ hp)
    rw [zsOf] at h
    split at h
    · rename_i hk
      have hx := hz (k, x) (by rw [List.zip_cons_cons]; exact List.mem_cons_self) hk
      simp only at hx
      obtain ⟨q, h1, h2, h3⟩ := zs_step (by simpa using hl) hz' h
      exact ⟨q + 1, by simpa using h1, by simpa using h2, by rw [hx, List.sum_cons, h3]; simp⟩
    · injection h with h1 h2
      subst h1; subst h2
      exact ⟨0, rfl, rfl, rfl⟩
theorem zip_drop {ks xs : List Int} (p : Nat) (h : ∀ q ∈ ks.zip xs, q.1 = 0 → q.2 = 0) : ∀ q ∈ (ks.drop p).zip (xs.drop p), q.1 = 0 → q.2 = 0 := by
  intro q hq
  refine h q ?_
  have : (ks.drop p).zip (xs.drop p) = (ks.zip xs).drop p := by rw [List.zip_eq_zipWith, List.zip_eq_zipWith, List.drop_zipWith]
  rw [this] at hq
  exact List.mem_of_mem_drop hq

def frow (z : Int) : List V := [.int .i64 z]
theorem law_fields (i : Ins) (hb : inB i.a ∧ inB i.b ∧ inB i.c ∧ inB i.d) : Abs.Pure Tryz.prog 3 [.agg i.row] (.bool true) := by
  have hck := check_pure i
  refine Pure.of 0 (CallS.enter scriptinglaw32_OpcodeFields_ok (Nat.le_of_ble_eq_true rfl) (Run.go 100 ?_))
  by_cases hc : chk i = 0
  rotate_left
  · simp -implicitDefEqProofs only [go_sem, Ins.v, Ins.row, initSl]
    refine CallS.pureF hck (by simp -implicitDefEqProofs only [go_sem, Ins.v, Ins.row]) ?_
    simp -implicitDefEqProofs only [go_sem, Ins.v, Ins.row, hc]
    refine CallS.pureF awake_pure (by simp -implicitDefEqProofs only [go_sem, Ins.v, Ins.row]) ?_
    simp -implicitDefEqProofs only [go_sem, Ins.v, Ins.row]
  have hff := fld_facts hc
  obtain ⟨ho, hz0⟩ := chk_fit1 hc
  have ht := text_pure i hb
  have htl : (textL i).length ≤ 100000 := by
    unfold textL
    rw [if_pos ho]
    have h1 := frm_word_len i.op
    have h2 := outT_len (w := (frm i.op).word) (k1 := (frm i.op).a) (k2 := (frm i.op).b) (k3 := (frm i.op).c) (k4 := (frm i.op).d) h1 hb.1 hb.2.1 hb.2.2.1 hb.2.2.2 4
    rw [← outT_end] at h2
    exact Nat.le_trans h2 (by decide)
  have hl := lfields_pure (textL i) htl
  rw [wordsF_text ho, words_zs] at hl
  have hsum : i.fs.sum = i.a + i.b + i.c + i.d := by simp [Ins.fs, List.sum_cons]; omega
  have hks : (frm i.op).ks.length = i.fs.length := rfl
  have hx4 : i.fs.length = 4 := rfl
  have hrow : [[V.int .i64 i.a], [V.int .i64 i.b], [V.int .i64 i.c], [V.int .i64 i.d]] = i.fs.map frow := rfl
  have hbd : ∀ x ∈ i.fs, -1 ≤ x ∧ x ≤ 32767 := by
    intro x hx
    simp only [Ins.fs, List.mem_cons, List.not_mem_nil, or_false] at hx
    rcases hx with rfl | rfl | rfl | rfl <;> omega
  generalize (frm i.op).ks = ks at *
  have hzl := zs_len ks i.fs
  have hzm : ∀ z ∈ zsOf ks i.fs, -1 ≤ z ∧ z ≤ 32767 := fun z hz => hbd z (zs_mem hz)
  have hlL : (((zsOf ks i.fs).map Lib.itoa).map srow).length = (zsOf ks i.fs).length := by simp
  have hrL : ∀ (k : Nat) (z : Int), (zsOf ks i.fs)[k]? = some z → (((zsOf ks i.fs).map Lib.itoa).map srow)[k]? = some [.str (Lib.itoa z)] := fun k z h => by simp [h, srow]
  have hzL : rowsz (((zsOf ks i.fs).map Lib.itoa).map srow) 1 = True := eq_true fun r hr => by obtain ⟨y, _, rfl⟩ := List.mem_map.1 hr; rfl
  generalize (((zsOf ks i.fs).map Lib.itoa).map srow) = L at *
  simp -implicitDefEqProofs only [go_sem, Ins.v, Ins.row, initSl]
  refine CallS.pureF hck (by simp -implicitDefEqProofs only [go_sem, Ins.v, Ins.row]) ?_
  simp -implicitDefEqProofs only [go_sem, Ins.v, Ins.row, hc]
  refine CallS.pureF ht (by simp -implicitDefEqProofs only [go_sem, Ins.v, Ins.row]) ?_
  simp -implicitDefEqProofs only [go_sem, Ins.v, Ins.row]
  refine CallS.pureF hl (by simp -implicitDefEqProofs only [go_sem, Ins.v, Ins.row]) ?_
  simp -implicitDefEqProofs only [go_sem, Ins.v, Ins.row, hlL]
  rw [hrow]
  generalize hZ : zsOf ks i.fs = zs at *
  have hlX : (i.fs.map frow).length = 4 := by rw [List.length_map, hx4]
  have hrX : ∀ (k : Nat) (z : Int), i.fs[k]? = some z → (i.fs.map frow)[k]? = some [.int .i64 z] := fun k z h => by simp [h, frow]
  generalize i.fs = xs at *
  refine Run.roundsK (fun (x : Nat × Nat × Nat × Int × Nat) => ⟨[(28, .int .i64 x.1), (27, .int .i64 zs.length), (6, .int .i64 x.2.2.2.1), (5, .int .i64 x.2.1), (4, .sl (3 * 10000 + 25) 1 0 4), (3, .isl L), (1, .ptr (3 * 10000 + 1) 0 0 0)],
      [((3 * 10000 + 25), 1, .rows 1 (xs.map frow)), ((3 * 10000 + 1), 0, .rows 5 [[.int .i64 i.op, .int .i64 i.a, .int .i64 i.b, .int .i64 i.c, .int .i64 i.d]])], x.2.2.2.2⟩)
    (fun x => x.1 ≤ zs.length ∧ x.2.1 ≤ x.2.2.1 ∧ x.2.2.1 ≤ 4 ∧ zs.drop x.1 = zsOf (ks.drop x.2.2.1) (xs.drop x.2.2.1) ∧ x.2.2.2.1 + (xs.drop x.2.2.1).sum = xs.sum ∧ (-(x.1 : Int) ≤ x.2.2.2.1 ∧ x.2.2.2.1 ≤ 32767 * (x.1 : Int))) (fun x => zs.length - x.1) (0, 0, 0, 0, 2) ?_ ?_ ?_
  · exact .turn id ⟨.refl _, .refl _, .refl _, .refl _, .refl _, .refl _, .refl _, trivial⟩ (.at 0 rfl rfl (.refl _) (.at 1 rfl rfl (.refl _) trivial))
  · exact ⟨Nat.zero_le _, Nat.le_refl _, Nat.zero_le _, by simp [hZ], by simp, by simp⟩
  rintro ⟨k, a, p, sm, n⟩ ⟨hk, hap, hp4, hdr, hsm, hs1, hs2⟩ ih
  dsimp only at hk hap hp4 hdr hsm hs1 hs2 ih ⊢
  refine Run.unf scriptinglaw32_OpcodeFields_l0_eq (Run.go 100 ?_)
  by_cases c : (k : Int) < zs.length
  rotate_left
  · have hk2 : k = zs.length := by omega
    have hs0 := zs_none (ks := ks.drop p) (xs := xs.drop p) (by simp; omega) (zip_drop p hz0) (by rw [← hdr, hk2]; simp)
    have he : (sm = i.a + i.b + i.c + i.d) = True := eq_true (by omega)
    simp -implicitDefEqProofs only [go_sem, Ins.v, Ins.row, c, he]
    refine ⟨⟨by omega, by omega⟩, ⟨by omega, by omega⟩, ⟨by omega, by omega⟩, ?_⟩
    refine CallS.pureF awake_pure (by simp -implicitDefEqProofs only [go_sem, Ins.v, Ins.row]) ?_
    simp -implicitDefEqProofs only [go_sem, Ins.v, Ins.row]
  obtain ⟨z, hz⟩ : ∃ z, zs[k]? = some z := ⟨zs[k]'(by omega), by simp⟩
  have hzr := hrL k z hz
  have hzb := hzm z (List.mem_of_getElem? hz)
  have hpz := parse_int z (by omega) (by omega)
  have k0 : ((0 : Int) ≤ (k : Int)) = True := eq_true (by omega)
  have k1 : (k < zs.length) = True := eq_true (by omega)
  have hcons : zsOf (ks.drop p) (xs.drop p) = z :: zs.drop (k + 1) := by
    rw [← hdr]
    obtain ⟨q1, q2⟩ := List.getElem?_eq_some_iff.1 hz
    rw [List.drop_eq_getElem_cons q1, q2]
  obtain ⟨q, g1, g2, g3⟩ := zs_step (by simp; omega) (zip_drop p hz0) hcons
  rw [List.getElem?_drop] at g1
  have hq4 : p + q < 4 := by rw [← hx4]; exact (List.getElem?_eq_some_iff.1 g1).1
  simp -implicitDefEqProofs only [go_sem, Ins.v, Ins.row, c, k0, k1, hzr, hzL, hlL, Option.some.injEq, forall_eq']
  refine CallS.pureF hpz (by simp -implicitDefEqProofs only [go_sem, Ins.v, Ins.row]) ?_
  simp -implicitDefEqProofs only [go_sem, Ins.v, Ins.row]
  rw [List.drop_drop, List.drop_drop] at g2
  rw [List.drop_drop] at g3
  refine Run.rounds (fun (b : Nat) => ⟨[(28, .int .i64 k), (27, .int .i64 zs.length), (8, .ptr (3 * 10000 + 8) n 0 0), (6, .int .i64 sm), (5, .int .i64 b), (4, .sl (3 * 10000 + 25) 1 0 4), (3, .isl L), (1, .ptr (3 * 10000 + 1) 0 0 0)],
      [((3 * 10000 + 8), n, .rows 2 [[.int .i64 z, .int .i64 1]]), ((3 * 10000 + 25), 1, .rows 1 (xs.map frow)), ((3 * 10000 + 1), 0, .rows 5 [[.int .i64 i.op, .int .i64 i.a, .int .i64 i.b, .int .i64 i.c, .int .i64 i.d]])], n + 1⟩)
    (fun b => b ≤ p + q) (fun b => 4 - b) a (by first | (simp -implicitDefEqProofs only [go_sem, Ins.v, Ins.row]; done) | (simp -implicitDefEqProofs only [go_sem, Ins.v, Ins.row]; simp)) (by omega) ?_
  intro b hb ih2
  refine Run.unf scriptinglaw32_OpcodeFields_l1_eq (Run.go 100 ?_)
  obtain ⟨y, hy⟩ : ∃ y, xs[b]? = some y := ⟨xs[b]'(by omega), by simp⟩
  have hyr := hrX b y hy
  have b0 : ((0 : Int) ≤ (b : Int)) = True := eq_true (by omega)
  have b1 : ((b : Int) < 4) = True := eq_true (by omega)
  have b2 : (b < 4) = True := eq_true (by omega)
  have b3 : ((b : Int) = 4) = False := eq_false (by omega)
  generalize xs.map frow = X at *
  by_cases d : y = z
  · simp -implicitDefEqProofs only [go_sem, Ins.v, Ins.row, b0, b1, b2, b3, hyr, hlX, d, Nat.zero_add, Option.some.injEq, forall_eq']
    have hnew : k + 1 ≤ zs.length ∧ b + 1 ≤ p + (q + 1) ∧ p + (q + 1) ≤ 4 ∧ zs.drop (k + 1) = zsOf (ks.drop (p + (q + 1))) (xs.drop (p + (q + 1))) ∧ (sm + z) + (xs.drop (p + (q + 1))).sum = xs.sum ∧ (-((k + 1 : Nat) : Int) ≤ sm + z ∧ sm + z ≤ 32767 * ((k + 1 : Nat) : Int)) :=
      ⟨by omega, by omega, by omega, g2.symm, by omega, by omega, by omega⟩
    have fin := fun s' hw' => ih s' (k + 1, b + 1, p + (q + 1), sm + z, n + 1) hnew (by dsimp only; omega) hw'
    exact ⟨⟨by omega, by omega⟩, ⟨by omega, by omega⟩, ⟨by omega, by omega⟩, fin _ (.turn id ⟨.refl _, .refl _, .refl _, .refl _, .refl _, .refl _, .refl _, trivial⟩ (.at 1 rfl rfl (.refl _) (.at 2 rfl rfl (.refl _) trivial)))⟩
  · simp -implicitDefEqProofs only [go_sem, Ins.v, Ins.row, b0, b1, b2, hyr, hlX, d, Nat.zero_add, Option.some.injEq, forall_eq']
    have hne : b ≠ p + q := fun e => d (by rw [e] at hy; rw [hy] at g1; injection g1)
    exact ⟨⟨by omega, by omega⟩, ih2 _ (b + 1) (by omega) (by omega) (by first | (simp -implicitDefEqProofs only [go_sem, Ins.v, Ins.row]; done) | (simp -implicitDefEqProofs only [go_sem, Ins.v, Ins.row]; simp))⟩

theorem opcodeFields_args (n0 : List V) (w0 : Typed Tryz.prog 23 n0) : Abs.Pure Tryz.prog 3 [.agg n0] (.bool true) := by
  obtain ⟨i, rfl, hb⟩ := ins_ofX w0
  exact law_fields i hb
end Go.Proofs.YtnjbkhidikbeiaaGreatDoor
