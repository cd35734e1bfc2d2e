/-
  FlowForwards. No condition.
-/
import Derived.Test.YtccghnpcfkifjaaDoorBlk
import Derived.Test.YtccghnpcfkifjaaDoorFlow0
set_option linter.unusedVariables false
set_option linter.unusedSimpArgs false
set_option maxRecDepth 100000
set_option maxHeartbeats 0
namespace Go.Proofs.YtccghnpcfkifjaaDoor
open Go.Abs
attribute [local irreducible] CallS Run
-- EV: Ins.v, Ins.row

def bk1 (code : List Ins) (a : Nat) : Bool := (code[a]?).elim false fun i => isJump i.op && decide (i.b ≤ a)
def jp1 (code : List Ins) (a : Nat) : Bool := (code[a]?).elim false fun i => isJump i.op || !falls i.op
def anyT (f : Nat → Bool) (k : Nat) : Bool := (List.range k).any f
theorem anyT_succ (f : Nat → Bool) (k : Nat) : anyT f (k + 1) = (anyT f k || f k) := by simp [anyT, List.range_succ]
theorem anyT_zero (f : Nat → Bool) : anyT f 0 = false := rfl
theorem anyT_false {f : Nat → Bool} {k : Nat} (h : anyT f k = false) {a : Nat} (ha : a < k) : f a = false := by
  unfold anyT at h
  rw [List.any_eq_false] at h
  have := h a (List.mem_range.2 ha)
  simpa using this
theorem backT_any (code : List Ins) : ∀ k, k ≤ code.length → (backT code k = [] ↔ anyT (bk1 code) k = false)
  | 0, _ => by simp [backT, anyT_zero]
  | k + 1, h => by
    obtain ⟨i, hi⟩ : ∃ i, code[k]? = some i := ⟨code[k]'(by omega), by simp⟩
    rw [backT_succ hi, anyT_succ, List.append_eq_nil_iff, backT_any code k (by omega), Bool.or_eq_false_iff]
    have : bk1 code k = (isJump i.op && decide (i.b ≤ (k : Int))) := by unfold bk1; rw [hi]; rfl
    rw [this]
    by_cases c : isJump i.op = true ∧ i.b ≤ (k : Int)
    · rw [if_pos c]; simp [c.1, c.2]
    · rw [if_neg c]
      have : (isJump i.op && decide (i.b ≤ (k : Int))) = false := by
        cases hj : isJump i.op with
        | false => rfl
        | true => simp; by_cases d : i.b ≤ (k : Int); exact absurd ⟨hj, d⟩ c; omega
      simp [this]
theorem loops_len (code : List Ins) : (0 < ((normZ (backL code)).length : Int)) = (anyT (bk1 code) code.length = true) := by
  have h := backT_any code code.length (Nat.le_refl _)
  rw [backT_all] at h
  have h2 : normZ (backL code) = [] ↔ backL code = [] := by
    constructor
    · intro e
      cases hb : backL code with
      | nil => rfl
      | cons x l =>
        have : x ∈ normZ (backL code) := mem_normZ_iff.2 (by rw [hb]; exact List.mem_cons_self)
        rw [e] at this; cases this
    · intro e; rw [e]; exact normZ_nil
  rw [eq_iff_iff]
  constructor
  · intro h0
    cases hb : anyT (bk1 code) code.length with
    | true => rfl
    | false =>
      have := h2.2 (h.2 hb)
      rw [this] at h0; simp at h0
  · intro hb
    have : normZ (backL code) ≠ [] := fun e => by
      have := h.1 (h2.1 e)
      rw [hb] at this; cases this
    have := List.length_pos_iff.2 this
    omega
/-- Without targets that go back each successor is greater. -/
theorem next_gt {code : List Ins} (h : anyT (bk1 code) code.length = false) {k : Nat} {x : Int} (hx : x ∈ nextL code k) : (k : Int) < x := by
  have hx2 := hx
  unfold nextL at hx
  split at hx
  · cases hx
  · rename_i h0
    rw [Int.toNat_natCast] at hx
    split at hx
    · rename_i i hi
      have hk := (List.getElem?_eq_some_iff.1 hi).1
      have hb := anyT_false h hk
      unfold bk1 at hb
      rw [hi] at hb
      simp only [Option.elim_some] at hb
      rw [mem_normZ_iff] at hx
      rcases List.mem_append.1 hx with hx | hx
      · unfold tgtL at hx
        split at hx
        · rename_i hc
          rw [hc.1] at hb
          simp at hb
          rw [List.mem_singleton.1 hx]; exact hb
        · cases hx
      · unfold fallL at hx
        split at hx
        · rw [List.mem_singleton.1 hx]; omega
        · cases hx
    · cases hx
/-- Straight code is one block. -/
theorem straight_one {code : List Ins} (h : anyT (jp1 code) code.length = false) (h0 : 0 < code.length) : (blkL code).length = 1 := by
  have hst : ∀ n : Nat, 0 < n → n < code.length → stB code n = false := by
    intro n hn hl
    cases hs : stB code n with
    | false => rfl
    | true =>
      rcases stB_iff.1 hs with e | ⟨a, ha, hm⟩
      · omega
      · have hj := anyT_false h ha
        unfold jp1 at hj
        unfold mkB at hm
        obtain ⟨i, hi⟩ : ∃ i, code[a]? = some i := ⟨code[a], by simp [ha]⟩
        rw [hi] at hj hm
        simp only [Option.elim_some, Bool.or_eq_false_iff] at hj
        simp only at hm
        rw [hj.1, hj.2] at hm
        simp at hm
  have : ∀ n : Nat, 0 < n → n ≤ code.length → (blkT code n).length = 1 := by
    intro n
    induction n with
    | zero => intro h; omega
    | succ n ih =>
      intro _ hl
      by_cases hn : n = 0
      · subst hn
        rw [blkT_yes (by rw [show ((0 : Nat) : Int) = 0 from rfl]; exact stB_zero code)]
        simp [blkT]
      · have h1 := ih (by omega) (by omega)
        rcases nil_or_snoc (blkT code n) with e | ⟨l, b, e⟩
        · rw [e] at h1; simp at h1
        · rw [blkT_no (hst n (by omega) (by omega)) e]
          rw [e] at h1
          simpa using h1
  exact this _ h0 (Nat.le_refl _)

theorem flowForwards_args (n0 : List V) (w0 : Typed Tryd.prog 29 n0) : Pure Tryd.prog 9 [.agg n0] (.bool true) := by
  obtain ⟨p, rfl, hsub, hmax⟩ := proto_found w0
  have hB : p.protos.length ≤ 9223372036854775807 := Nat.le_trans hmax (by decide)
  have hlarge := large_pure p hB
  refine Pure.of 0 (CallS.enter scriptinglaw35_FlowForwards_ok (Nat.le_of_ble_eq_true rfl) ?_)
  have hpr := p.row_eq
  rw [hpr] at hsub hlarge ⊢
  have hnx := fun (hc : p.code.length ≤ 80) a => next_pure p.code a (by omega) (.str p.name) (.int .i64 p.line) (.int .i64 p.params) (.bool p.vararg) (.int .i64 p.regs) (.isl (p.lines.map zline)) (.isl p.consts) (.isl (p.protos.map Pro.row)) (.isl (p.ups.map upRow)) (.isl p.vars)
  have hlo := fun (hc : p.code.length ≤ 80) => loops_pure p.code (by omega) (.str p.name) (.int .i64 p.line) (.int .i64 p.params) (.bool p.vararg) (.int .i64 p.regs) (.isl (p.lines.map zline)) (.isl p.consts) (.isl (p.protos.map Pro.row)) (.isl (p.ups.map upRow)) (.isl p.vars)
  have hbk := fun (hc : p.code.length ≤ 80) h => blocks_pure p.code (by omega) (.str p.name) (.int .i64 p.line) (.int .i64 p.params) (.bool p.vararg) (.int .i64 p.regs) (.isl (p.lines.map zline)) (.isl p.consts) (.isl (p.protos.map Pro.row)) (.isl (p.ups.map upRow)) (.isl p.vars) h
  have hlen : (p.code.map Ins.row).length = p.code.length := List.length_map ..
  have hrow : ∀ (k : Nat) (x : Ins), p.code[k]? = some x → (p.code.map Ins.row)[k]? = some x.row := fun k x h => by rw [List.getElem?_map, h]; rfl
  have hsz : rowsz (p.code.map Ins.row) 5 = True := eq_true fun r hr => by obtain ⟨y, _, rfl⟩ := List.mem_map.1 hr; rfl
  generalize p.protos.map Pro.row = c8 at *
  generalize p.code.map Ins.row = es at *
  generalize p.lines.map zline = c6 at *
  generalize p.ups.map upRow = c9 at *
  have hsub' := hsub
  simp only [List.map_cons, List.map_nil, List.cons.injEq, and_true, true_and, V.sub, subLL_map, V.isl.injEq] at hsub'
  refine Run.go 100 ?_
  simp -implicitDefEqProofs only [go_sem, Nat.reduceEqDiff, Nat.reduceAdd, Nat.reduceSub, Nat.reduceMul, Nat.reduceLeDiff, Nat.reduceLT, Nat.reduceBEq, Int.reduceToNat, Int.reduceLE, Int.reduceLT, Int.reduceEq, Int.reduceNe, Int.reduceAdd, Int.reduceSub, Int.reduceNeg, Int.toNat_natCast, Int.cast_ofNat_Int, Int.natCast_zero, Int.natCast_one, reduceCtorEq, reduceIte, Nat.lt_irrefl, and_self, not_false_eq_true, not_true_eq_false, Ins.v, Ins.row, initSl]
  refine CallS.pure hlarge (by simp -implicitDefEqProofs only [go_sem, Nat.reduceEqDiff, Nat.reduceAdd, Nat.reduceSub, Nat.reduceMul, Nat.reduceLeDiff, Nat.reduceLT, Nat.reduceBEq, Int.reduceToNat, Int.reduceLE, Int.reduceLT, Int.reduceEq, Int.reduceNe, Int.reduceAdd, Int.reduceSub, Int.reduceNeg, Int.toNat_natCast, Int.cast_ofNat_Int, Int.natCast_zero, Int.natCast_one, reduceCtorEq, reduceIte, Nat.lt_irrefl, and_self, not_false_eq_true, not_true_eq_false, Ins.v, Ins.row, hsub']) ?_
  cases hL : largeB p with
  | true =>
    simp -implicitDefEqProofs only [go_sem, Nat.reduceEqDiff, Nat.reduceAdd, Nat.reduceSub, Nat.reduceMul, Nat.reduceLeDiff, Nat.reduceLT, Nat.reduceBEq, Int.reduceToNat, Int.reduceLE, Int.reduceLT, Int.reduceEq, Int.reduceNe, Int.reduceAdd, Int.reduceSub, Int.reduceNeg, Int.toNat_natCast, Int.cast_ofNat_Int, Int.natCast_zero, Int.natCast_one, reduceCtorEq, reduceIte, Nat.lt_irrefl, and_self, not_false_eq_true, not_true_eq_false, Ins.v, Ins.row]
    refine CallS.pureF awake_pure (by simp -implicitDefEqProofs only [go_sem, Nat.reduceEqDiff, Nat.reduceAdd, Nat.reduceSub, Nat.reduceMul, Nat.reduceLeDiff, Nat.reduceLT, Nat.reduceBEq, Int.reduceToNat, Int.reduceLE, Int.reduceLT, Int.reduceEq, Int.reduceNe, Int.reduceAdd, Int.reduceSub, Int.reduceNeg, Int.toNat_natCast, Int.cast_ofNat_Int, Int.natCast_zero, Int.natCast_one, reduceCtorEq, reduceIte, Nat.lt_irrefl, and_self, not_false_eq_true, not_true_eq_false, Ins.v, Ins.row]) ?_
    simp -implicitDefEqProofs only [go_sem, Nat.reduceEqDiff, Nat.reduceAdd, Nat.reduceSub, Nat.reduceMul, Nat.reduceLeDiff, Nat.reduceLT, Nat.reduceBEq, Int.reduceToNat, Int.reduceLE, Int.reduceLT, Int.reduceEq, Int.reduceNe, Int.reduceAdd, Int.reduceSub, Int.reduceNeg, Int.toNat_natCast, Int.cast_ofNat_Int, Int.natCast_zero, Int.natCast_one, reduceCtorEq, reduceIte, Nat.lt_irrefl, and_self, not_false_eq_true, not_true_eq_false, Ins.v, Ins.row]
  | false =>
    have hS := Small.of hL
    have hc := hS.code
    replace hnx := hnx hc
    replace hlo := hlo hc
    replace hbk := hbk hc (by simp only [List.map_cons, List.map_nil, V.sub, subLL_map, hsub'])
    simp -implicitDefEqProofs only [go_sem, Nat.reduceEqDiff, Nat.reduceAdd, Nat.reduceSub, Nat.reduceMul, Nat.reduceLeDiff, Nat.reduceLT, Nat.reduceBEq, Int.reduceToNat, Int.reduceLE, Int.reduceLT, Int.reduceEq, Int.reduceNe, Int.reduceAdd, Int.reduceSub, Int.reduceNeg, Int.toNat_natCast, Int.cast_ofNat_Int, Int.natCast_zero, Int.natCast_one, reduceCtorEq, reduceIte, Nat.lt_irrefl, and_self, not_false_eq_true, not_true_eq_false, Ins.v, Ins.row, hlen]
    refine Run.rounds (fun (x : Nat) => ⟨[(17, .int .i64 x), (16, .int .i64 p.code.length), (4, .bool (anyT (jp1 p.code) x)), (3, .bool (anyT (bk1 p.code) x)), (1, .ptr (9 * 10000 + 1) 0 0 0)], [((9 * 10000 + 1), 0, .rows 11 [[.str p.name, .int .i64 p.line, .int .i64 p.params, .bool p.vararg, .int .i64 p.regs, .isl es, .isl c6, .isl p.consts, .isl c8, .isl c9, .isl p.vars]])], 1⟩) (fun x => x ≤ p.code.length) (fun x => p.code.length - x) 0 (by simp -implicitDefEqProofs only [go_sem, Nat.reduceEqDiff, Nat.reduceAdd, Nat.reduceSub, Nat.reduceMul, Nat.reduceLeDiff, Nat.reduceLT, Nat.reduceBEq, Int.reduceToNat, Int.reduceLE, Int.reduceLT, Int.reduceEq, Int.reduceNe, Int.reduceAdd, Int.reduceSub, Int.reduceNeg, Int.toNat_natCast, Int.cast_ofNat_Int, Int.natCast_zero, Int.natCast_one, reduceCtorEq, reduceIte, Nat.lt_irrefl, and_self, not_false_eq_true, not_true_eq_false, Ins.v, Ins.row, anyT_zero]) (by omega) ?_
    intro k hk ih
    have hz : ((k + 1 : Nat) : Int) = (k : Int) + 1 := by omega
    refine Run.unf scriptinglaw35_FlowForwards_l0_eq (Run.go 100 ?_)
    by_cases c : (k : Int) < p.code.length
    · obtain ⟨i, hi⟩ : ∃ i, p.code[k]? = some i := ⟨p.code[k]'(by omega), by simp⟩
      have hr := hrow k i hi
      have k0 : ((0 : Int) ≤ (k : Int)) = True := eq_true (by omega)
      have k1 : ((k : Int) < (p.code.length : Int)) = True := eq_true c
      have k2 : (k < p.code.length) = True := eq_true (by omega)
      have tp := target_pure i
      have fp := falls_pure i
      have e1 := anyT_succ (bk1 p.code) k
      have e2 := anyT_succ (jp1 p.code) k
      have f1 : bk1 p.code k = (isJump i.op && decide (i.b ≤ (k : Int))) := by unfold bk1; rw [hi]; rfl
      have f2 : jp1 p.code k = (isJump i.op || !falls i.op) := by unfold jp1; rw [hi]; rfl
      rw [f1] at e1
      rw [f2] at e2
      have fin : ∀ s, Weak s ⟨[(17, .int .i64 ((k : Int) + 1)), (16, .int .i64 p.code.length), (4, .bool (anyT (jp1 p.code) (k + 1))), (3, .bool (anyT (bk1 p.code) (k + 1))), (1, .ptr (9 * 10000 + 1) 0 0 0)], [((9 * 10000 + 1), 0, .rows 11 [[.str p.name, .int .i64 p.line, .int .i64 p.params, .bool p.vararg, .int .i64 p.regs, .isl es, .isl c6, .isl p.consts, .isl c8, .isl c9, .isl p.vars]])], 1⟩ → _ := fun s hw => ih s (k + 1) (by omega) (by omega) (by simp only [hz]; exact hw)
      clear ih
      rw [e1, e2] at fin
      generalize anyT (bk1 p.code) k = b1 at *
      generalize anyT (jp1 p.code) k = b2 at *
      have kk : ∀ b : Bool, (b && true) = b := fun b => by cases b <;> rfl
      simp -implicitDefEqProofs only [go_sem, Nat.reduceEqDiff, Nat.reduceAdd, Nat.reduceSub, Nat.reduceMul, Nat.reduceLeDiff, Nat.reduceLT, Nat.reduceBEq, Int.reduceToNat, Int.reduceLE, Int.reduceLT, Int.reduceEq, Int.reduceNe, Int.reduceAdd, Int.reduceSub, Int.reduceNeg, Int.toNat_natCast, Int.cast_ofNat_Int, Int.natCast_zero, Int.natCast_one, reduceCtorEq, reduceIte, Nat.lt_irrefl, and_self, not_false_eq_true, not_true_eq_false, Ins.v, Ins.row, hlen, hr, hsz, k0, k1, k2, Option.some.injEq, forall_eq']
      refine CallS.pureF tp (by simp -implicitDefEqProofs only [go_sem, Nat.reduceEqDiff, Nat.reduceAdd, Nat.reduceSub, Nat.reduceMul, Nat.reduceLeDiff, Nat.reduceLT, Nat.reduceBEq, Int.reduceToNat, Int.reduceLE, Int.reduceLT, Int.reduceEq, Int.reduceNe, Int.reduceAdd, Int.reduceSub, Int.reduceNeg, Int.toNat_natCast, Int.cast_ofNat_Int, Int.natCast_zero, Int.natCast_one, reduceCtorEq, reduceIte, Nat.lt_irrefl, and_self, not_false_eq_true, not_true_eq_false, Ins.v, Ins.row]) ?_
      cases hj : isJump i.op <;> cases b1 <;> cases b2 <;> rw [hj] at fin <;> by_cases d : i.b ≤ (k : Int)
      all_goals
        first | replace d := eq_false d | replace d := eq_true d
        simp only [d, decide_true, decide_false, Bool.and_true, Bool.and_false, Bool.true_or, Bool.false_or, Bool.or_true, Bool.or_false, Bool.true_and, Bool.false_and] at fin
        simp -implicitDefEqProofs only [go_sem, Nat.reduceEqDiff, Nat.reduceAdd, Nat.reduceSub, Nat.reduceMul, Nat.reduceLeDiff, Nat.reduceLT, Nat.reduceBEq, Int.reduceToNat, Int.reduceLE, Int.reduceLT, Int.reduceEq, Int.reduceNe, Int.reduceAdd, Int.reduceSub, Int.reduceNeg, Int.toNat_natCast, Int.cast_ofNat_Int, Int.natCast_zero, Int.natCast_one, reduceCtorEq, reduceIte, Nat.lt_irrefl, and_self, not_false_eq_true, not_true_eq_false, Ins.v, Ins.row, hlen, hr, hsz, hj, d, k0, k1, k2, Option.some.injEq, forall_eq']
        try (refine CallS.pureF fp ?_ ?_; (focus (simp -implicitDefEqProofs only [go_sem, Nat.reduceEqDiff, Nat.reduceAdd, Nat.reduceSub, Nat.reduceMul, Nat.reduceLeDiff, Nat.reduceLT, Nat.reduceBEq, Int.reduceToNat, Int.reduceLE, Int.reduceLT, Int.reduceEq, Int.reduceNe, Int.reduceAdd, Int.reduceSub, Int.reduceNeg, Int.toNat_natCast, Int.cast_ofNat_Int, Int.natCast_zero, Int.natCast_one, reduceCtorEq, reduceIte, Nat.lt_irrefl, and_self, not_false_eq_true, not_true_eq_false, Ins.v, Ins.row]; done)); cases hf : falls i.op <;> rw [hf] at fin <;> simp only [Bool.not_true, Bool.not_false] at fin <;> simp -implicitDefEqProofs only [go_sem, Nat.reduceEqDiff, Nat.reduceAdd, Nat.reduceSub, Nat.reduceMul, Nat.reduceLeDiff, Nat.reduceLT, Nat.reduceBEq, Int.reduceToNat, Int.reduceLE, Int.reduceLT, Int.reduceEq, Int.reduceNe, Int.reduceAdd, Int.reduceSub, Int.reduceNeg, Int.toNat_natCast, Int.cast_ofNat_Int, Int.natCast_zero, Int.natCast_one, reduceCtorEq, reduceIte, Nat.lt_irrefl, and_self, not_false_eq_true, not_true_eq_false, Ins.v, Ins.row])
      all_goals exact ⟨by omega, fin _ (by simp -implicitDefEqProofs only [go_sem, Nat.reduceEqDiff, Nat.reduceAdd, Nat.reduceSub, Nat.reduceMul, Nat.reduceLeDiff, Nat.reduceLT, Nat.reduceBEq, Int.reduceToNat, Int.reduceLE, Int.reduceLT, Int.reduceEq, Int.reduceNe, Int.reduceAdd, Int.reduceSub, Int.reduceNeg, Int.toNat_natCast, Int.cast_ofNat_Int, Int.natCast_zero, Int.natCast_one, reduceCtorEq, reduceIte, Nat.lt_irrefl, and_self, not_false_eq_true, not_true_eq_false, Ins.v, Ins.row])⟩
    have e : k = p.code.length := by omega
    subst e
    clear ih
    have hll := loops_len p.code
    have hgt := @next_gt p.code
    have hone := @straight_one p.code
    have hlm : ((blkL p.code).map (rowN p.code)).length = (blkL p.code).length := List.length_map ..
    generalize (blkL p.code).map (rowN p.code) = BR at *
    generalize anyT (bk1 p.code) p.code.length = b1 at *
    generalize anyT (jp1 p.code) p.code.length = b2 at *
    have hll1 : b1 = true → (0 < ((normZ (backL p.code)).length : Int)) = True := fun h => by rw [hll, h]; simp
    have hll0 : b1 = false → (0 < ((normZ (backL p.code)).length : Int)) = False := fun h => by rw [hll, h]; simp
    have hm2 : ((normZ (backL p.code)).map zrw).length = (normZ (backL p.code)).length := List.length_map ..
    generalize (normZ (backL p.code)).map zrw = LR at *
    clear hll
    have hpos : (0 < (p.code.length : Int)) = True ∨ (0 < (p.code.length : Int)) = False := by
      by_cases h : 0 < (p.code.length : Int)
      · exact .inl (eq_true h)
      · exact .inr (eq_false h)
    simp -implicitDefEqProofs only [go_sem, Nat.reduceEqDiff, Nat.reduceAdd, Nat.reduceSub, Nat.reduceMul, Nat.reduceLeDiff, Nat.reduceLT, Nat.reduceBEq, Int.reduceToNat, Int.reduceLE, Int.reduceLT, Int.reduceEq, Int.reduceNe, Int.reduceAdd, Int.reduceSub, Int.reduceNeg, Int.toNat_natCast, Int.cast_ofNat_Int, Int.natCast_zero, Int.natCast_one, reduceCtorEq, reduceIte, Nat.lt_irrefl, and_self, not_false_eq_true, not_true_eq_false, Ins.v, Ins.row, c, hlen]
    refine CallS.pure hlo (by simp -implicitDefEqProofs only [go_sem, Nat.reduceEqDiff, Nat.reduceAdd, Nat.reduceSub, Nat.reduceMul, Nat.reduceLeDiff, Nat.reduceLT, Nat.reduceBEq, Int.reduceToNat, Int.reduceLE, Int.reduceLT, Int.reduceEq, Int.reduceNe, Int.reduceAdd, Int.reduceSub, Int.reduceNeg, Int.toNat_natCast, Int.cast_ofNat_Int, Int.natCast_zero, Int.natCast_one, reduceCtorEq, reduceIte, Nat.lt_irrefl, and_self, not_false_eq_true, not_true_eq_false, Ins.v, Ins.row, hsub']) ?_
    rcases (by cases b1 <;> simp : b1 = true ∨ b1 = false) with hb | hb <;> rcases (by cases b2 <;> simp : b2 = true ∨ b2 = false) with hj | hj <;> rcases hpos with h0 | h0
    all_goals
      (first | replace hll1 := hll1 hb | replace hll1 := hll0 hb)
      simp -implicitDefEqProofs only [go_sem, Nat.reduceEqDiff, Nat.reduceAdd, Nat.reduceSub, Nat.reduceMul, Nat.reduceLeDiff, Nat.reduceLT, Nat.reduceBEq, Int.reduceToNat, Int.reduceLE, Int.reduceLT, Int.reduceEq, Int.reduceNe, Int.reduceAdd, Int.reduceSub, Int.reduceNeg, Int.toNat_natCast, Int.cast_ofNat_Int, Int.natCast_zero, Int.natCast_one, reduceCtorEq, reduceIte, Nat.lt_irrefl, and_self, not_false_eq_true, not_true_eq_false, Ins.v, Ins.row, hm2, hll1, hb, hj, h0, hlen]
      try (refine CallS.pure (hbk) (by simp -implicitDefEqProofs only [go_sem, Nat.reduceEqDiff, Nat.reduceAdd, Nat.reduceSub, Nat.reduceMul, Nat.reduceLeDiff, Nat.reduceLT, Nat.reduceBEq, Int.reduceToNat, Int.reduceLE, Int.reduceLT, Int.reduceEq, Int.reduceNe, Int.reduceAdd, Int.reduceSub, Int.reduceNeg, Int.toNat_natCast, Int.cast_ofNat_Int, Int.natCast_zero, Int.natCast_one, reduceCtorEq, reduceIte, Nat.lt_irrefl, and_self, not_false_eq_true, not_true_eq_false, Ins.v, Ins.row, hsub']) ?_; have h1 := hone hj (by simpa using h0); simp -implicitDefEqProofs only [go_sem, Nat.reduceEqDiff, Nat.reduceAdd, Nat.reduceSub, Nat.reduceMul, Nat.reduceLeDiff, Nat.reduceLT, Nat.reduceBEq, Int.reduceToNat, Int.reduceLE, Int.reduceLT, Int.reduceEq, Int.reduceNe, Int.reduceAdd, Int.reduceSub, Int.reduceNeg, Int.toNat_natCast, Int.cast_ofNat_Int, Int.natCast_zero, Int.natCast_one, reduceCtorEq, reduceIte, Nat.lt_irrefl, and_self, not_false_eq_true, not_true_eq_false, Ins.v, Ins.row, hlm, h1, hlen])
    all_goals
      refine Run.rounds (fun (x : Nat) => ⟨[(77, .int .i64 x), (76, .int .i64 p.code.length), (3, .bool b1), (1, .ptr (9 * 10000 + 1) 0 0 0)], [((9 * 10000 + 1), 0, .rows 11 [[.str p.name, .int .i64 p.line, .int .i64 p.params, .bool p.vararg, .int .i64 p.regs, .isl es, .isl c6, .isl p.consts, .isl c8, .isl c9, .isl p.vars]])], 1⟩) (fun x => x ≤ p.code.length) (fun x => p.code.length - x) 0 (by simp -implicitDefEqProofs only [go_sem, Nat.reduceEqDiff, Nat.reduceAdd, Nat.reduceSub, Nat.reduceMul, Nat.reduceLeDiff, Nat.reduceLT, Nat.reduceBEq, Int.reduceToNat, Int.reduceLE, Int.reduceLT, Int.reduceEq, Int.reduceNe, Int.reduceAdd, Int.reduceSub, Int.reduceNeg, Int.toNat_natCast, Int.cast_ofNat_Int, Int.natCast_zero, Int.natCast_one, reduceCtorEq, reduceIte, Nat.lt_irrefl, and_self, not_false_eq_true, not_true_eq_false, Ins.v, Ins.row, hb]) (by omega) ?_
      intro k hk ih
      have hz : ((k + 1 : Nat) : Int) = (k : Int) + 1 := by omega
      refine Run.unf scriptinglaw35_FlowForwards_l1_eq (Run.go 100 ?_)
      by_cases c : (k : Int) < p.code.length
      rotate_left
      · simp -implicitDefEqProofs only [go_sem, Nat.reduceEqDiff, Nat.reduceAdd, Nat.reduceSub, Nat.reduceMul, Nat.reduceLeDiff, Nat.reduceLT, Nat.reduceBEq, Int.reduceToNat, Int.reduceLE, Int.reduceLT, Int.reduceEq, Int.reduceNe, Int.reduceAdd, Int.reduceSub, Int.reduceNeg, Int.toNat_natCast, Int.cast_ofNat_Int, Int.natCast_zero, Int.natCast_one, reduceCtorEq, reduceIte, Nat.lt_irrefl, and_self, not_false_eq_true, not_true_eq_false, Ins.v, Ins.row, c]
        refine CallS.pureF awake_pure (by simp -implicitDefEqProofs only [go_sem, Nat.reduceEqDiff, Nat.reduceAdd, Nat.reduceSub, Nat.reduceMul, Nat.reduceLeDiff, Nat.reduceLT, Nat.reduceBEq, Int.reduceToNat, Int.reduceLE, Int.reduceLT, Int.reduceEq, Int.reduceNe, Int.reduceAdd, Int.reduceSub, Int.reduceNeg, Int.toNat_natCast, Int.cast_ofNat_Int, Int.natCast_zero, Int.natCast_one, reduceCtorEq, reduceIte, Nat.lt_irrefl, and_self, not_false_eq_true, not_true_eq_false, Ins.v, Ins.row]) ?_
        simp -implicitDefEqProofs only [go_sem, Nat.reduceEqDiff, Nat.reduceAdd, Nat.reduceSub, Nat.reduceMul, Nat.reduceLeDiff, Nat.reduceLT, Nat.reduceBEq, Int.reduceToNat, Int.reduceLE, Int.reduceLT, Int.reduceEq, Int.reduceNe, Int.reduceAdd, Int.reduceSub, Int.reduceNeg, Int.toNat_natCast, Int.cast_ofNat_Int, Int.natCast_zero, Int.natCast_one, reduceCtorEq, reduceIte, Nat.lt_irrefl, and_self, not_false_eq_true, not_true_eq_false, Ins.v, Ins.row]
      simp -implicitDefEqProofs only [go_sem, Nat.reduceEqDiff, Nat.reduceAdd, Nat.reduceSub, Nat.reduceMul, Nat.reduceLeDiff, Nat.reduceLT, Nat.reduceBEq, Int.reduceToNat, Int.reduceLE, Int.reduceLT, Int.reduceEq, Int.reduceNe, Int.reduceAdd, Int.reduceSub, Int.reduceNeg, Int.toNat_natCast, Int.cast_ofNat_Int, Int.natCast_zero, Int.natCast_one, reduceCtorEq, reduceIte, Nat.lt_irrefl, and_self, not_false_eq_true, not_true_eq_false, Ins.v, Ins.row, c]
      refine CallS.pure (hnx k) (by simp -implicitDefEqProofs only [go_sem, Nat.reduceEqDiff, Nat.reduceAdd, Nat.reduceSub, Nat.reduceMul, Nat.reduceLeDiff, Nat.reduceLT, Nat.reduceBEq, Int.reduceToNat, Int.reduceLE, Int.reduceLT, Int.reduceEq, Int.reduceNe, Int.reduceAdd, Int.reduceSub, Int.reduceNeg, Int.toNat_natCast, Int.cast_ofNat_Int, Int.natCast_zero, Int.natCast_one, reduceCtorEq, reduceIte, Nat.lt_irrefl, and_self, not_false_eq_true, not_true_eq_false, Ins.v, Ins.row, hsub']) ?_
      have hnl := nextL_len2 p.code k
      have hgk : b1 = false → ∀ x ∈ nextL p.code k, (k : Int) < x := fun h x hx => hgt h hx
      generalize nextL p.code k = nl at *
      have hnls : ∀ (j : Nat) (x : Int), nl[j]? = some x → (nl.map zrw)[j]? = some [.int .i64 x] := fun j x h => by rw [List.getElem?_map, h]; rfl
      have hnll : (nl.map zrw).length = nl.length := List.length_map ..
      have hnlz : rowsz (nl.map zrw) 1 = True := eq_true fun r hr => by obtain ⟨y, _, rfl⟩ := List.mem_map.1 hr; rfl
      generalize nl.map zrw = nls at *
      simp -implicitDefEqProofs only [go_sem, Nat.reduceEqDiff, Nat.reduceAdd, Nat.reduceSub, Nat.reduceMul, Nat.reduceLeDiff, Nat.reduceLT, Nat.reduceBEq, Int.reduceToNat, Int.reduceLE, Int.reduceLT, Int.reduceEq, Int.reduceNe, Int.reduceAdd, Int.reduceSub, Int.reduceNeg, Int.toNat_natCast, Int.cast_ofNat_Int, Int.natCast_zero, Int.natCast_one, reduceCtorEq, reduceIte, Nat.lt_irrefl, and_self, not_false_eq_true, not_true_eq_false, Ins.v, Ins.row, hnll]
      refine Run.rounds (fun (x : Nat) => ⟨[(85, .int .i64 x), (84, .int .i64 nl.length), (77, .int .i64 k), (76, .int .i64 p.code.length), (9, .isl nls), (8, .int .i64 k), (3, .bool b1), (1, .ptr (9 * 10000 + 1) 0 0 0)], [((9 * 10000 + 1), 0, .rows 11 [[.str p.name, .int .i64 p.line, .int .i64 p.params, .bool p.vararg, .int .i64 p.regs, .isl es, .isl c6, .isl p.consts, .isl c8, .isl c9, .isl p.vars]])], 1⟩) (fun x => x ≤ nl.length) (fun x => nl.length - x) 0 (by simp -implicitDefEqProofs only [go_sem, Nat.reduceEqDiff, Nat.reduceAdd, Nat.reduceSub, Nat.reduceMul, Nat.reduceLeDiff, Nat.reduceLT, Nat.reduceBEq, Int.reduceToNat, Int.reduceLE, Int.reduceLT, Int.reduceEq, Int.reduceNe, Int.reduceAdd, Int.reduceSub, Int.reduceNeg, Int.toNat_natCast, Int.cast_ofNat_Int, Int.natCast_zero, Int.natCast_one, reduceCtorEq, reduceIte, Nat.lt_irrefl, and_self, not_false_eq_true, not_true_eq_false, Ins.v, Ins.row, hb]) (by omega) ?_
      intro j hj2 ih2
      have hz2 : ((j + 1 : Nat) : Int) = (j : Int) + 1 := by omega
      refine Run.unf scriptinglaw35_FlowForwards_l2_eq (Run.go 100 ?_)
      by_cases c2 : (j : Int) < nl.length
      rotate_left
      · simp -implicitDefEqProofs only [go_sem, Nat.reduceEqDiff, Nat.reduceAdd, Nat.reduceSub, Nat.reduceMul, Nat.reduceLeDiff, Nat.reduceLT, Nat.reduceBEq, Int.reduceToNat, Int.reduceLE, Int.reduceLT, Int.reduceEq, Int.reduceNe, Int.reduceAdd, Int.reduceSub, Int.reduceNeg, Int.toNat_natCast, Int.cast_ofNat_Int, Int.natCast_zero, Int.natCast_one, reduceCtorEq, reduceIte, Nat.lt_irrefl, and_self, not_false_eq_true, not_true_eq_false, Ins.v, Ins.row, c2]
        exact ⟨by omega, ih _ (k + 1) (by omega) (by omega) (by simp only [hz]; simp -implicitDefEqProofs only [go_sem, Nat.reduceEqDiff, Nat.reduceAdd, Nat.reduceSub, Nat.reduceMul, Nat.reduceLeDiff, Nat.reduceLT, Nat.reduceBEq, Int.reduceToNat, Int.reduceLE, Int.reduceLT, Int.reduceEq, Int.reduceNe, Int.reduceAdd, Int.reduceSub, Int.reduceNeg, Int.toNat_natCast, Int.cast_ofNat_Int, Int.natCast_zero, Int.natCast_one, reduceCtorEq, reduceIte, Nat.lt_irrefl, and_self, not_false_eq_true, not_true_eq_false, Ins.v, Ins.row, hb])⟩
      obtain ⟨x, hx⟩ : ∃ x, nl[j]? = some x := ⟨nl[j]'(by omega), by simp⟩
      have hxr := hnls j x hx
      have hxk : b1 = false → (x ≤ (k : Int)) = False := fun h => eq_false (by have := hgk h x (List.mem_of_getElem? hx); omega)
      have j0 : ((0 : Int) ≤ (j : Int)) = True := eq_true (by omega)
      have j1 : ((j : Int) < (nl.length : Int)) = True := eq_true c2
      have j2 : (j < nl.length) = True := eq_true (by omega)
      first
        | (have hxk := hxk hb
           simp -implicitDefEqProofs only [go_sem, Nat.reduceEqDiff, Nat.reduceAdd, Nat.reduceSub, Nat.reduceMul, Nat.reduceLeDiff, Nat.reduceLT, Nat.reduceBEq, Int.reduceToNat, Int.reduceLE, Int.reduceLT, Int.reduceEq, Int.reduceNe, Int.reduceAdd, Int.reduceSub, Int.reduceNeg, Int.toNat_natCast, Int.cast_ofNat_Int, Int.natCast_zero, Int.natCast_one, reduceCtorEq, reduceIte, Nat.lt_irrefl, and_self, not_false_eq_true, not_true_eq_false, Ins.v, Ins.row, c2, hb, hnll, hnlz, hxr, hxk, j0, j1, j2, Option.some.injEq, forall_eq']
           exact ⟨by omega, ih2 _ (j + 1) (by omega) (by omega) (by simp only [hz2]; simp -implicitDefEqProofs only [go_sem, Nat.reduceEqDiff, Nat.reduceAdd, Nat.reduceSub, Nat.reduceMul, Nat.reduceLeDiff, Nat.reduceLT, Nat.reduceBEq, Int.reduceToNat, Int.reduceLE, Int.reduceLT, Int.reduceEq, Int.reduceNe, Int.reduceAdd, Int.reduceSub, Int.reduceNeg, Int.toNat_natCast, Int.cast_ofNat_Int, Int.natCast_zero, Int.natCast_one, reduceCtorEq, reduceIte, Nat.lt_irrefl, and_self, not_false_eq_true, not_true_eq_false, Ins.v, Ins.row, hb])⟩)
        | (simp -implicitDefEqProofs only [go_sem, Nat.reduceEqDiff, Nat.reduceAdd, Nat.reduceSub, Nat.reduceMul, Nat.reduceLeDiff, Nat.reduceLT, Nat.reduceBEq, Int.reduceToNat, Int.reduceLE, Int.reduceLT, Int.reduceEq, Int.reduceNe, Int.reduceAdd, Int.reduceSub, Int.reduceNeg, Int.toNat_natCast, Int.cast_ofNat_Int, Int.natCast_zero, Int.natCast_one, reduceCtorEq, reduceIte, Nat.lt_irrefl, and_self, not_false_eq_true, not_true_eq_false, Ins.v, Ins.row, c2, hb]
           exact ⟨by omega, ih2 _ (j + 1) (by omega) (by omega) (by simp only [hz2]; simp -implicitDefEqProofs only [go_sem, Nat.reduceEqDiff, Nat.reduceAdd, Nat.reduceSub, Nat.reduceMul, Nat.reduceLeDiff, Nat.reduceLT, Nat.reduceBEq, Int.reduceToNat, Int.reduceLE, Int.reduceLT, Int.reduceEq, Int.reduceNe, Int.reduceAdd, Int.reduceSub, Int.reduceNeg, Int.toNat_natCast, Int.cast_ofNat_Int, Int.natCast_zero, Int.natCast_one, reduceCtorEq, reduceIte, Nat.lt_irrefl, and_self, not_false_eq_true, not_true_eq_false, Ins.v, Ins.row, hb])⟩)
end Go.Proofs.YtccghnpcfkifjaaDoor
