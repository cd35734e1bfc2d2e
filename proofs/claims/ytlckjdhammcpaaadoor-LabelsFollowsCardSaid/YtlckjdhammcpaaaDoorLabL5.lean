/-
  LabelsTargets. No condition.
-/
import Derived.Test.YtlckjdhammcpaaaDoorLabL3
import Derived.Test.YtlckjdhammcpaaaDoorKeep
set_option linter.unusedVariables false
set_option linter.unusedSimpArgs false
set_option maxRecDepth 100000
set_option maxHeartbeats 0
namespace Go.Proofs.YtlckjdhammcpaaaDoor
open Go.Abs
attribute [local irreducible] CallS Run
-- EV: LabH, nO, nM, nI, nP, Ins.v, Ins.row, Cal.v, Cal.row

def toItm (c : Cal) : Itm := if c.kind = 1 then ⟨{ c.i with b := 0 }, c.line, c.label⟩ else ⟨c.i, c.line, -1⟩
def tgt (pl : List Int) (c : Cal) : Int := pl.getD c.label.toNat 0
def outI (pl : List Int) (c : Cal) : Ins := if c.kind = 1 then { c.i with b := tgt pl c } else c.i
def goodC (pl : List Int) (n : Nat) (c : Cal) : Bool := !decide (c.kind = 1) || decide (0 ≤ tgt pl c ∧ tgt pl c < n)

structure Giv (L : Lab) (g : List Cal) (pl : List Int) : Prop where
  items : L.items = g.map toItm
  each : ∀ c ∈ g, (c.kind = 0 ∧ chk c.i = 0) ∨ (c.kind = 1 ∧ isJump c.i.op = true ∧ chk { c.i with b := 0 } = 0 ∧ 0 ≤ c.label ∧ c.label < L.places.length)
  len : pl.length = 101
  pl : ∀ (j : Nat) p, L.places[j]? = some p → pl[j]? = some p

theorem Giv.n {L : Lab} {g : List Cal} {pl : List Int} (h : Giv L g pl) : g.length = L.items.length := by rw [h.items]; simp

theorem chk_b {i : Ins} {p : Int} (hj : isJump i.op = true) (h : chk { i with b := 0 } = 0) (h0 : 0 ≤ p) (h1 : p ≤ 16383) : chk { i with b := p } = 0 := by
  have hj := of_decide_eq_true hj
  obtain ⟨op, a, b, c, d⟩ := i
  simp only at hj h ⊢
  rcases hj with rfl | rfl | rfl | rfl | rfl <;>
  (simp [chk, frm, frmN, frmT, isOp, fit1, fit2, low, high, lowT, highT, lastR, mm2] at h ⊢; omega)

theorem Giv.fix {L : Lab} {g : List Cal} {pl : List Int} (h : Giv L g pl) (hok : L.OK) (c : Cal) (hc : c ∈ g) : L.fix (toItm c) = if goodC pl g.length c then some (outI pl c) else none := by
  rw [h.n]
  rcases h.each c hc with ⟨h1, _⟩ | ⟨h1, h2, h3, h4, h5⟩
  · simp [toItm, Lab.fix, goodC, outI, h1]
  · obtain ⟨p, hp⟩ : ∃ p, L.places[c.label.toNat]? = some p := ⟨L.places[c.label.toNat]'(by omega), by simp⟩
    have hq := h.pl _ _ hp
    have hm := hok.at_ p (List.mem_of_getElem? hp)
    have ht : tgt pl c = p := by rw [tgt, getD_some hq]
    rw [toItm, if_pos h1, Lab.fix, if_pos h4, Lab.target]
    simp only
    rw [getD_some hp]
    simp only [goodC, outI, h1, ht, decide_true, Bool.not_true, Bool.false_or, if_true]
    by_cases hb : p = -1 ∨ p ≥ L.items.length
    · rw [if_pos hb, if_neg (by simp; omega)]; rfl
    · rw [if_neg hb, if_pos (by simp; omega)]; rfl

theorem Giv.finish {L : Lab} {g : List Cal} {pl : List Int} (h : Giv L g pl) (hok : L.OK) : L.finish = if g.all (goodC pl g.length) then some (g.map (outI pl)) else none := by
  have : ∀ l : List Cal, (∀ c ∈ l, c ∈ g) → L.fixes (l.map toItm) = if l.all (goodC pl g.length) then some (l.map (outI pl)) else none := by
    intro l
    induction l with
    | nil => intro _; rfl
    | cons c r ih =>
      intro hl
      rw [List.map_cons, Lab.fixes, h.fix hok c (hl c List.mem_cons_self), ih fun x hx => hl x (List.mem_cons_of_mem _ hx)]
      simp only [List.all_cons, List.map_cons]
      cases goodC pl g.length c <;> cases r.all (goodC pl g.length) <;> simp
  rw [Lab.finish, h.items]
  exact this g fun c hc => hc

theorem call_ok0 {L : Lab} {c : Cal} (hk : c.kind = 0) (h : (L.call c).2.1 = 0) : chk c.i = 0 ∧ (L.call c).2.2 = (L.add c.i c.line (-1)).2.2 := by
  rw [Lab.call, if_pos hk] at h ⊢
  obtain ⟨h1, h2, h3⟩ := emit_ok h
  exact ⟨h1, by rw [h3]⟩
theorem call_ok1 {L : Lab} {c : Cal} (hk : c.kind = 1) (h : (L.call c).2.1 = 0) :
    isJump c.i.op = true ∧ chk { c.i with b := 0 } = 0 ∧ 0 ≤ c.label ∧ c.label < L.places.length ∧ (L.call c).2.2 = (L.add { c.i with b := 0 } c.line c.label).2.2 := by
  rw [Lab.call, if_neg (by omega), if_pos hk] at h ⊢
  revert h
  unfold Lab.jump
  split
  · intro h; simp at h
  rename_i h1
  split
  · rename_i h1; intro h; exact absurd h h1
  rename_i h2
  split
  · intro h; simp at h
  split
  · intro h; simp at h
  · intro _; exact ⟨by simpa using h1, Classical.not_not.1 h2, by omega, by omega, rfl⟩

theorem Giv.new : Giv Lab.new [] (List.replicate 101 0) := ⟨rfl, by simp, by simp, by simp [Lab.new]⟩
theorem Giv.add0 {L : Lab} {g : List Cal} {pl : List Int} (h : Giv L g pl) {c : Cal} (hk : c.kind = 0) (he : (L.call c).2.1 = 0) : Giv (L.call c).2.2 (g ++ [c]) pl := by
  obtain ⟨h1, h2⟩ := call_ok0 hk he
  rw [h2]
  refine ⟨?_, fun x hx => ?_, h.len, h.pl⟩
  · simp only [Lab.add, List.map_append, List.map_cons, List.map_nil, h.items]
    rw [toItm, if_neg (by omega)]
  · rcases List.mem_append.1 hx with hx | hx
    · exact h.each x hx
    · rw [List.mem_singleton.1 hx]; exact .inl ⟨hk, h1⟩
theorem Giv.add1 {L : Lab} {g : List Cal} {pl : List Int} (h : Giv L g pl) {c : Cal} (hk : c.kind = 1) (he : (L.call c).2.1 = 0) : Giv (L.call c).2.2 (g ++ [c]) pl := by
  obtain ⟨h1, h2, h3, h4, h5⟩ := call_ok1 hk he
  rw [h5]
  refine ⟨?_, fun x hx => ?_, h.len, h.pl⟩
  · simp only [Lab.add, List.map_append, List.map_cons, List.map_nil, h.items]
    rw [toItm, if_pos hk]
  · rcases List.mem_append.1 hx with hx | hx
    · exact h.each x hx
    · rw [List.mem_singleton.1 hx]; exact .inr ⟨hk, h1, h2, h3, h4⟩
theorem Giv.add2 {L : Lab} {g : List Cal} {pl : List Int} (h : Giv L g pl) {c : Cal} (hk : c.kind = 2) (he : (L.call c).2.1 = 0) (hp : L.places.length ≤ 100) : Giv (L.call c).2.2 g (pl.set L.places.length (-1)) := by
  obtain ⟨_, h2, h3⟩ := (call_ok he).2.1 hk
  have hl := h.len
  refine ⟨by rw [h2, h.items], fun x hx => ?_, by simpa using h.len, fun j p hj => ?_⟩
  · rcases h.each x hx with h4 | ⟨a1, a2, a3, a4, a5⟩
    · exact .inl h4
    · exact .inr ⟨a1, a2, a3, a4, by rw [h3, List.length_append, List.length_singleton]; omega⟩
  · rw [h3] at hj
    rw [List.getElem?_append] at hj
    split at hj
    · rename_i hlt
      rw [List.getElem?_set_ne (by omega)]; exact h.pl j p hj
    · rename_i hlt
      have : j = L.places.length := by
        have := (List.getElem?_eq_some_iff.1 hj).1
        simp at this; omega
      subst this
      simp at hj
      subst hj
      rw [List.getElem?_set_self (by omega)]
theorem Giv.add3 {L : Lab} {g : List Cal} {pl : List Int} (h : Giv L g pl) {c : Cal} (hk : ¬ (c.kind = 0 ∨ c.kind = 1)) (hk2 : ¬ c.kind = 2) (he : (L.call c).2.1 = 0) (hp : L.places.length ≤ 100) :
    Giv (L.call c).2.2 g (pl.set c.label.toNat (L.items.length : Nat)) := by
  obtain ⟨h2, l1, l2, h3⟩ := (call_ok he).2.2 hk hk2
  have hl := h.len
  refine ⟨by rw [h2, h.items], fun x hx => ?_, by simpa using h.len, fun j p hj => ?_⟩
  · rw [h3, List.length_set]; exact h.each x hx
  · rw [h3] at hj
    by_cases hjk : c.label.toNat = j
    · subst hjk
      rw [List.getElem?_set_self (by omega)] at hj
      rw [List.getElem?_set_self (by omega)]; exact hj
    · rw [List.getElem?_set_ne hjk] at hj ⊢
      exact h.pl j p hj

theorem rowszG (cs : List Cal) : rowsz (cs.map Cal.row) 8 = True := rowszC cs

theorem labelsTargets_args (n0 : List (List V)) (l0 : n0.length ≤ maxLen) (w0 : ∀ row ∈ n0, Typed Tryd.prog 34 row) : Pure Tryd.prog 5 [.isl n0] (.bool true) := by
  obtain ⟨cs, h0⟩ := cals_of w0
  have hrow : ∀ (k : Nat) (x : Cal), cs[k]? = some x → n0[k]? = some x.row := fun k x h => by rw [h0, List.getElem?_map, h]; rfl
  have hlen : n0.length = cs.length := by rw [h0, List.length_map]
  have hsz : rowsz n0 8 = True := by rw [h0]; exact rowszC cs
  clear h0 w0 l0
  refine Pure.of 0 (CallS.enter scriptinglaw38_LabelsTargets_ok (Nat.le_of_ble_eq_true rfl) ?_)
  refine Run.go 100 ?_
  simp -implicitDefEqProofs only [go_sem, Nat.reduceEqDiff, Nat.reduceAdd, Nat.reduceSub, Nat.reduceMul, Nat.reduceLeDiff, Nat.reduceLT, Nat.reduceBEq, Int.reduceToNat, Int.reduceLE, Int.reduceLT, Int.reduceEq, Int.reduceNe, Int.reduceAdd, Int.reduceSub, Int.reduceNeg, Int.toNat_natCast, Int.cast_ofNat_Int, Int.natCast_zero, Int.natCast_one, reduceCtorEq, reduceIte, Nat.lt_irrefl, and_self, not_false_eq_true, not_true_eq_false, LabH, nO, nM, nI, nP, Ins.v, Ins.row, Cal.v, Cal.row, initSl]
  refine CallS.at [] [] (new_c _) rfl rfl ?_
  rintro r h' n' hn ⟨so, sm, si, sp, rfl, rfl⟩
  simp -implicitDefEqProofs only [go_sem, Nat.reduceEqDiff, Nat.reduceAdd, Nat.reduceSub, Nat.reduceMul, Nat.reduceLeDiff, Nat.reduceLT, Nat.reduceBEq, Int.reduceToNat, Int.reduceLE, Int.reduceLT, Int.reduceEq, Int.reduceNe, Int.reduceAdd, Int.reduceSub, Int.reduceNeg, Int.toNat_natCast, Int.cast_ofNat_Int, Int.natCast_zero, Int.natCast_one, reduceCtorEq, reduceIte, Nat.lt_irrefl, and_self, not_false_eq_true, not_true_eq_false, LabH, nO, nM, nI, nP, Ins.v, Ins.row, Cal.v, Cal.row, Lab.new]
  refine ⟨fun h => ?_, fun h => ?_⟩
  · refine CallS.pureF awake_pure (by simp -implicitDefEqProofs only [go_sem, Nat.reduceEqDiff, Nat.reduceAdd, Nat.reduceSub, Nat.reduceMul, Nat.reduceLeDiff, Nat.reduceLT, Nat.reduceBEq, Int.reduceToNat, Int.reduceLE, Int.reduceLT, Int.reduceEq, Int.reduceNe, Int.reduceAdd, Int.reduceSub, Int.reduceNeg, Int.toNat_natCast, Int.cast_ofNat_Int, Int.natCast_zero, Int.natCast_one, reduceCtorEq, reduceIte, Nat.lt_irrefl, and_self, not_false_eq_true, not_true_eq_false, LabH, nO, nM, nI, nP, Ins.v, Ins.row, Cal.v, Cal.row]) ?_
    simp -implicitDefEqProofs only [go_sem, Nat.reduceEqDiff, Nat.reduceAdd, Nat.reduceSub, Nat.reduceMul, Nat.reduceLeDiff, Nat.reduceLT, Nat.reduceBEq, Int.reduceToNat, Int.reduceLE, Int.reduceLT, Int.reduceEq, Int.reduceNe, Int.reduceAdd, Int.reduceSub, Int.reduceNeg, Int.toNat_natCast, Int.cast_ofNat_Int, Int.natCast_zero, Int.natCast_one, reduceCtorEq, reduceIte, Nat.lt_irrefl, and_self, not_false_eq_true, not_true_eq_false, LabH, nO, nM, nI, nP, Ins.v, Ins.row, Cal.v, Cal.row]
  have hrep : (List.replicate 101 (0 : Int)).map zrow = List.replicate 101 [V.int .i64 0] := by rw [List.map_replicate]; rfl
  refine Run.rounds (fun (x : Nat × (Nat × Nat) × (Nat × List Cal × List Int) × Nat) => ⟨[(28, .int .i64 x.1), (27, .int .i64 n0.length), (5, .sl (5 * 10000 + 25) x.2.2.1.1 0 x.2.2.1.2.1.length), (4, .sl (5 * 10000 + 24) n' 0 101), (3, .ptr nO so 0 0), (0, .isl n0)],
      [((5 * 10000 + 25), x.2.2.1.1, .rows 8 (x.2.2.1.2.1.map Cal.row)), ((5 * 10000 + 24), n', .rows 1 (x.2.2.1.2.2.map zrow))] ++ LabH so sm x.2.1.1 x.2.1.2 (at_ cs x.1), x.2.2.2⟩)
    (fun x => x.1 ≤ n0.length ∧ Giv (at_ cs x.1) x.2.2.1.2.1 x.2.2.1.2.2) (fun x => n0.length - x.1) (0, (si, sp), (n' + 1, [], List.replicate 101 0), n' + 1 + 1) (by simp -implicitDefEqProofs only [go_sem, Nat.reduceEqDiff, Nat.reduceAdd, Nat.reduceSub, Nat.reduceMul, Nat.reduceLeDiff, Nat.reduceLT, Nat.reduceBEq, Int.reduceToNat, Int.reduceLE, Int.reduceLT, Int.reduceEq, Int.reduceNe, Int.reduceAdd, Int.reduceSub, Int.reduceNeg, Int.toNat_natCast, Int.cast_ofNat_Int, Int.natCast_zero, Int.natCast_one, reduceCtorEq, reduceIte, Nat.lt_irrefl, and_self, not_false_eq_true, not_true_eq_false, LabH, nO, nM, nI, nP, Ins.v, Ins.row, Cal.v, Cal.row, at_, Lab.run, Lab.new, hrep]) ⟨by simp only; omega, Giv.new⟩ ?_
  rintro ⟨k, ⟨si, sp⟩, ⟨sg, g, pl⟩, m⟩ ⟨hk, hg⟩ ih
  simp only at hk hg ⊢
  refine Run.unf scriptinglaw38_LabelsTargets_l0_eq (Run.go 11 ?_)
  have hin := at_in cs k
  have hok := hin.ok (by omega)
  by_cases c : (k : Int) < n0.length
  · obtain ⟨x, hx⟩ : ∃ x, cs[k]? = some x := ⟨cs[k]'(by omega), by simp⟩
    have hr := hrow k x hx
    have hb0 : ((0 : Int) ≤ (k : Int)) = True := eq_true (by omega)
    have hb1 : ((k : Int) < (n0.length : Int)) = True := eq_true c
    have hb2 : (k < n0.length) = True := eq_true (by omega)
    simp -implicitDefEqProofs only [go_sem, Nat.reduceEqDiff, Nat.reduceAdd, Nat.reduceSub, Nat.reduceMul, Nat.reduceLeDiff, Nat.reduceLT, Nat.reduceBEq, Int.reduceToNat, Int.reduceLE, Int.reduceLT, Int.reduceEq, Int.reduceNe, Int.reduceAdd, Int.reduceSub, Int.reduceNeg, Int.toNat_natCast, Int.cast_ofNat_Int, Int.natCast_zero, Int.natCast_one, reduceCtorEq, reduceIte, Nat.lt_irrefl, and_self, not_false_eq_true, not_true_eq_false, LabH, nO, nM, nI, nP, Ins.v, Ins.row, Cal.v, Cal.row, hsz, hr, hb0, hb1, hb2, Option.some.injEq, forall_eq']
    refine CallS.at [2, 3, 4, 5] [0, 1] (program_c (at_ cs k) so sm si sp _ x hok) rfl rfl ?_
    rintro r h' n1 hn ⟨si', sp', rfl, rfl⟩
    have hz : ((k + 1 : Nat) : Int) = (k : Int) + 1 := by omega
    simp -implicitDefEqProofs only [go_sem, Nat.reduceEqDiff, Nat.reduceAdd, Nat.reduceSub, Nat.reduceMul, Nat.reduceLeDiff, Nat.reduceLT, Nat.reduceBEq, Int.reduceToNat, Int.reduceLE, Int.reduceLT, Int.reduceEq, Int.reduceNe, Int.reduceAdd, Int.reduceSub, Int.reduceNeg, Int.toNat_natCast, Int.cast_ofNat_Int, Int.natCast_zero, Int.natCast_one, reduceCtorEq, reduceIte, Nat.lt_irrefl, and_self, not_false_eq_true, not_true_eq_false, LabH, nO, nM, nI, nP, Ins.v, Ins.row, Cal.v, Cal.row]
    refine Run.keep [28, 27, 8, 7, 6, 5, 4, 3, 0] ?_
    by_cases he : ((at_ cs k).call x).2.1 = 0
    rotate_left
    · refine Run.go 100 ?_
      simp -implicitDefEqProofs only [go_sem, Nat.reduceEqDiff, Nat.reduceAdd, Nat.reduceSub, Nat.reduceMul, Nat.reduceLeDiff, Nat.reduceLT, Nat.reduceBEq, Int.reduceToNat, Int.reduceLE, Int.reduceLT, Int.reduceEq, Int.reduceNe, Int.reduceAdd, Int.reduceSub, Int.reduceNeg, Int.toNat_natCast, Int.cast_ofNat_Int, Int.natCast_zero, Int.natCast_one, reduceCtorEq, reduceIte, Nat.lt_irrefl, and_self, not_false_eq_true, not_true_eq_false, LabH, nO, nM, nI, nP, Ins.v, Ins.row, Cal.v, Cal.row, he]
      refine ⟨by omega, ih _ (k + 1, (si', sp'), (sg, g, pl), n1) ⟨by simp only; omega, by simp only [at_succ hx, call_err he]; exact hg⟩ (by simp only; omega) ?_⟩
      simp only [hz, at_succ hx]
      simp -implicitDefEqProofs only [go_sem, Nat.reduceEqDiff, Nat.reduceAdd, Nat.reduceSub, Nat.reduceMul, Nat.reduceLeDiff, Nat.reduceLT, Nat.reduceBEq, Int.reduceToNat, Int.reduceLE, Int.reduceLT, Int.reduceEq, Int.reduceNe, Int.reduceAdd, Int.reduceSub, Int.reduceNeg, Int.toNat_natCast, Int.cast_ofNat_Int, Int.natCast_zero, Int.natCast_one, reduceCtorEq, reduceIte, Nat.lt_irrefl, and_self, not_false_eq_true, not_true_eq_false, LabH, nO, nM, nI, nP, Ins.v, Ins.row, Cal.v, Cal.row]
    obtain ⟨q1, q2, q3⟩ := call_ok he
    have hgn := hg.n
    have hI := hok.items
    have hP := hin.places
    have hpl := hg.len
    have hN := at_succ hx
    have c1 := fun h => call_ok1 (L := at_ cs k) (c := x) h he
    have hg0 := fun h => hg.add0 (c := x) h he
    have hg1 := fun h => hg.add1 (c := x) h he
    have hg2 := fun h => hg.add2 (c := x) h he (by omega)
    have hg3 := fun h h' => hg.add3 (c := x) h h' he (by omega)
    generalize (at_ cs k).call x = R at *
    have next : ∀ s sg' g' pl' m', Giv R.2.2 g' pl' → Weak s ⟨[(28, .int .i64 ((k : Int) + 1)), (27, .int .i64 n0.length), (5, .sl (5 * 10000 + 25) sg' 0 g'.length), (4, .sl (5 * 10000 + 24) n' 0 101), (3, .ptr nO so 0 0), (0, .isl n0)],
      [((5 * 10000 + 25), sg', .rows 8 (g'.map Cal.row)), ((5 * 10000 + 24), n', .rows 1 (pl'.map zrow))] ++ LabH so sm si' sp' R.2.2, m'⟩ → _ :=
      fun s sg' g' pl' m' hgg hw => ih s (k + 1, (si', sp'), (sg', g', pl'), m') ⟨by simp only; omega, by simp only [hN]; exact hgg⟩ (by simp only; omega) (by simp only [hz, hN]; exact hw)
    clear ih
    by_cases hk0 : x.kind = 0
    · obtain ⟨e1, e2, e3⟩ := q1 (.inl hk0)
      refine Run.go 8 ?_
      simp -implicitDefEqProofs only [go_sem, Nat.reduceEqDiff, Nat.reduceAdd, Nat.reduceSub, Nat.reduceMul, Nat.reduceLeDiff, Nat.reduceLT, Nat.reduceBEq, Int.reduceToNat, Int.reduceLE, Int.reduceLT, Int.reduceEq, Int.reduceNe, Int.reduceAdd, Int.reduceSub, Int.reduceNeg, Int.toNat_natCast, Int.cast_ofNat_Int, Int.natCast_zero, Int.natCast_one, reduceCtorEq, reduceIte, Nat.lt_irrefl, and_self, not_false_eq_true, not_true_eq_false, LabH, nO, nM, nI, nP, Ins.v, Ins.row, Cal.v, Cal.row, hk0, e1, he, hr, hsz, hb0, hb1, hb2, Option.some.injEq, forall_eq']
      refine Run.keep [87, 28, 27, 7, 6, 5, 4, 3, 0] ?_
      refine Run.go 100 ?_
      simp -implicitDefEqProofs only [go_sem, Nat.reduceEqDiff, Nat.reduceAdd, Nat.reduceSub, Nat.reduceMul, Nat.reduceLeDiff, Nat.reduceLT, Nat.reduceBEq, Int.reduceToNat, Int.reduceLE, Int.reduceLT, Int.reduceEq, Int.reduceNe, Int.reduceAdd, Int.reduceSub, Int.reduceNeg, Int.toNat_natCast, Int.cast_ofNat_Int, Int.natCast_zero, Int.natCast_one, reduceCtorEq, reduceIte, Nat.lt_irrefl, and_self, not_false_eq_true, not_true_eq_false, LabH, nO, nM, nI, nP, Ins.v, Ins.row, Cal.v, Cal.row, hk0, e1, he, hr, hsz, hb0, hb1, hb2, Option.some.injEq, forall_eq']
      refine ⟨by omega, by omega, next _ n1 (g ++ [x]) pl (n1 + 1) (hg0 hk0) ?_⟩
      simp -implicitDefEqProofs only [go_sem, Nat.reduceEqDiff, Nat.reduceAdd, Nat.reduceSub, Nat.reduceMul, Nat.reduceLeDiff, Nat.reduceLT, Nat.reduceBEq, Int.reduceToNat, Int.reduceLE, Int.reduceLT, Int.reduceEq, Int.reduceNe, Int.reduceAdd, Int.reduceSub, Int.reduceNeg, Int.toNat_natCast, Int.cast_ofNat_Int, Int.natCast_zero, Int.natCast_one, reduceCtorEq, reduceIte, Nat.lt_irrefl, and_self, not_false_eq_true, not_true_eq_false, LabH, nO, nM, nI, nP, Ins.v, Ins.row, Cal.v, Cal.row, List.map_append, hk0]
    by_cases hk1 : x.kind = 1
    · obtain ⟨e1, e2, e3⟩ := q1 (.inr hk1)
      obtain ⟨_, _, l1, l2, _⟩ := c1 hk1
      have hl0 : (x.label < 0) = False := eq_false (by omega)
      have hl1 : ((100 : Int) < x.label) = False := eq_false (by omega)
      refine Run.go 8 ?_
      simp -implicitDefEqProofs only [go_sem, Nat.reduceEqDiff, Nat.reduceAdd, Nat.reduceSub, Nat.reduceMul, Nat.reduceLeDiff, Nat.reduceLT, Nat.reduceBEq, Int.reduceToNat, Int.reduceLE, Int.reduceLT, Int.reduceEq, Int.reduceNe, Int.reduceAdd, Int.reduceSub, Int.reduceNeg, Int.toNat_natCast, Int.cast_ofNat_Int, Int.natCast_zero, Int.natCast_one, reduceCtorEq, reduceIte, Nat.lt_irrefl, and_self, not_false_eq_true, not_true_eq_false, LabH, nO, nM, nI, nP, Ins.v, Ins.row, Cal.v, Cal.row, hk1, e1, hl0, hl1, he, hr, hsz, hb0, hb1, hb2, Option.some.injEq, forall_eq']
      refine Run.keep [87, 28, 27, 7, 6, 5, 4, 3, 0] ?_
      refine Run.go 100 ?_
      simp -implicitDefEqProofs only [go_sem, Nat.reduceEqDiff, Nat.reduceAdd, Nat.reduceSub, Nat.reduceMul, Nat.reduceLeDiff, Nat.reduceLT, Nat.reduceBEq, Int.reduceToNat, Int.reduceLE, Int.reduceLT, Int.reduceEq, Int.reduceNe, Int.reduceAdd, Int.reduceSub, Int.reduceNeg, Int.toNat_natCast, Int.cast_ofNat_Int, Int.natCast_zero, Int.natCast_one, reduceCtorEq, reduceIte, Nat.lt_irrefl, and_self, not_false_eq_true, not_true_eq_false, LabH, nO, nM, nI, nP, Ins.v, Ins.row, Cal.v, Cal.row, hk1, e1, hl0, hl1, he, hr, hsz, hb0, hb1, hb2, Option.some.injEq, forall_eq']
      refine ⟨by omega, by omega, next _ n1 (g ++ [x]) pl (n1 + 1) (hg1 hk1) ?_⟩
      simp -implicitDefEqProofs only [go_sem, Nat.reduceEqDiff, Nat.reduceAdd, Nat.reduceSub, Nat.reduceMul, Nat.reduceLeDiff, Nat.reduceLT, Nat.reduceBEq, Int.reduceToNat, Int.reduceLE, Int.reduceLT, Int.reduceEq, Int.reduceNe, Int.reduceAdd, Int.reduceSub, Int.reduceNeg, Int.toNat_natCast, Int.cast_ofNat_Int, Int.natCast_zero, Int.natCast_one, reduceCtorEq, reduceIte, Nat.lt_irrefl, and_self, not_false_eq_true, not_true_eq_false, LabH, nO, nM, nI, nP, Ins.v, Ins.row, Cal.v, Cal.row, List.map_append, hk1]
    by_cases hk2 : x.kind = 2
    · obtain ⟨e1, e2, e3⟩ := q2 hk2
      have hl0 : (((at_ cs k).places.length : Int) < 0) = False := eq_false (by omega)
      have hl1 : ((100 : Int) < (at_ cs k).places.length) = False := eq_false (by omega)
      refine Run.go 8 ?_
      simp -implicitDefEqProofs only [go_sem, Nat.reduceEqDiff, Nat.reduceAdd, Nat.reduceSub, Nat.reduceMul, Nat.reduceLeDiff, Nat.reduceLT, Nat.reduceBEq, Int.reduceToNat, Int.reduceLE, Int.reduceLT, Int.reduceEq, Int.reduceNe, Int.reduceAdd, Int.reduceSub, Int.reduceNeg, Int.toNat_natCast, Int.cast_ofNat_Int, Int.natCast_zero, Int.natCast_one, reduceCtorEq, reduceIte, Nat.lt_irrefl, and_self, not_false_eq_true, not_true_eq_false, LabH, nO, nM, nI, nP, Ins.v, Ins.row, Cal.v, Cal.row, hk2, e1, hl0, hl1, he, hr, hsz, hb0, hb1, hb2, Option.some.injEq, forall_eq']
      refine Run.keep [87, 28, 27, 7, 6, 5, 4, 3, 0] ?_
      refine Run.go 100 ?_
      simp -implicitDefEqProofs only [go_sem, Nat.reduceEqDiff, Nat.reduceAdd, Nat.reduceSub, Nat.reduceMul, Nat.reduceLeDiff, Nat.reduceLT, Nat.reduceBEq, Int.reduceToNat, Int.reduceLE, Int.reduceLT, Int.reduceEq, Int.reduceNe, Int.reduceAdd, Int.reduceSub, Int.reduceNeg, Int.toNat_natCast, Int.cast_ofNat_Int, Int.natCast_zero, Int.natCast_one, reduceCtorEq, reduceIte, Nat.lt_irrefl, and_self, not_false_eq_true, not_true_eq_false, LabH, nO, nM, nI, nP, Ins.v, Ins.row, Cal.v, Cal.row, hk2, e1, hl0, hl1, he, hr, hsz, hb0, hb1, hb2, Option.some.injEq, forall_eq']
      refine ⟨by omega, by omega, by omega, fun p hp => ⟨by simp [zrow], by omega, next _ sg g (pl.set (at_ cs k).places.length (-1)) n1 (hg2 hk2) ?_⟩⟩
      simp -implicitDefEqProofs only [go_sem, Nat.reduceEqDiff, Nat.reduceAdd, Nat.reduceSub, Nat.reduceMul, Nat.reduceLeDiff, Nat.reduceLT, Nat.reduceBEq, Int.reduceToNat, Int.reduceLE, Int.reduceLT, Int.reduceEq, Int.reduceNe, Int.reduceAdd, Int.reduceSub, Int.reduceNeg, Int.toNat_natCast, Int.cast_ofNat_Int, Int.natCast_zero, Int.natCast_one, reduceCtorEq, reduceIte, Nat.lt_irrefl, and_self, not_false_eq_true, not_true_eq_false, LabH, nO, nM, nI, nP, Ins.v, Ins.row, Cal.v, Cal.row, List.map_set, zrow]
    · obtain ⟨e1, e2, e3, e4⟩ := q3 (by omega) hk2
      have hl0 : (x.label < 0) = False := eq_false (by omega)
      have hl1 : ((100 : Int) < x.label) = False := eq_false (by omega)
      refine Run.go 8 ?_
      simp -implicitDefEqProofs only [go_sem, Nat.reduceEqDiff, Nat.reduceAdd, Nat.reduceSub, Nat.reduceMul, Nat.reduceLeDiff, Nat.reduceLT, Nat.reduceBEq, Int.reduceToNat, Int.reduceLE, Int.reduceLT, Int.reduceEq, Int.reduceNe, Int.reduceAdd, Int.reduceSub, Int.reduceNeg, Int.toNat_natCast, Int.cast_ofNat_Int, Int.natCast_zero, Int.natCast_one, reduceCtorEq, reduceIte, Nat.lt_irrefl, and_self, not_false_eq_true, not_true_eq_false, LabH, nO, nM, nI, nP, Ins.v, Ins.row, Cal.v, Cal.row, hk0, hk1, hk2, hl0, hl1, he, hr, hsz, hb0, hb1, hb2, Option.some.injEq, forall_eq']
      refine Run.keep [87, 28, 27, 7, 6, 5, 4, 3, 0] ?_
      refine Run.go 100 ?_
      simp -implicitDefEqProofs only [go_sem, Nat.reduceEqDiff, Nat.reduceAdd, Nat.reduceSub, Nat.reduceMul, Nat.reduceLeDiff, Nat.reduceLT, Nat.reduceBEq, Int.reduceToNat, Int.reduceLE, Int.reduceLT, Int.reduceEq, Int.reduceNe, Int.reduceAdd, Int.reduceSub, Int.reduceNeg, Int.toNat_natCast, Int.cast_ofNat_Int, Int.natCast_zero, Int.natCast_one, reduceCtorEq, reduceIte, Nat.lt_irrefl, and_self, not_false_eq_true, not_true_eq_false, LabH, nO, nM, nI, nP, Ins.v, Ins.row, Cal.v, Cal.row, hk0, hk1, hk2, hl0, hl1, he, hr, hsz, hb0, hb1, hb2, Option.some.injEq, forall_eq']
      refine ⟨?_, ?_, ?_⟩
      all_goals (
        refine CallS.at [0, 1, 2, 3] [4, 5] (len_c R.2.2 so sm si' sp' _) rfl rfl ?_
        rintro r h' n2 hn ⟨rfl, rfl⟩
        simp -implicitDefEqProofs only [go_sem, Nat.reduceEqDiff, Nat.reduceAdd, Nat.reduceSub, Nat.reduceMul, Nat.reduceLeDiff, Nat.reduceLT, Nat.reduceBEq, Int.reduceToNat, Int.reduceLE, Int.reduceLT, Int.reduceEq, Int.reduceNe, Int.reduceAdd, Int.reduceSub, Int.reduceNeg, Int.toNat_natCast, Int.cast_ofNat_Int, Int.natCast_zero, Int.natCast_one, reduceCtorEq, reduceIte, Nat.lt_irrefl, and_self, not_false_eq_true, not_true_eq_false, LabH, nO, nM, nI, nP, Ins.v, Ins.row, Cal.v, Cal.row, hk0, hk1, hk2, hl0, hl1, he, hr, hsz, hb0, hb1, hb2, Option.some.injEq, forall_eq']
        refine ⟨by omega, by omega, by omega, fun p hp => ⟨by simp [zrow], by omega, next _ sg g (pl.set x.label.toNat ((at_ cs k).items.length : Nat)) n2 (hg3 (by omega) hk2) ?_⟩⟩
        simp -implicitDefEqProofs only [go_sem, Nat.reduceEqDiff, Nat.reduceAdd, Nat.reduceSub, Nat.reduceMul, Nat.reduceLeDiff, Nat.reduceLT, Nat.reduceBEq, Int.reduceToNat, Int.reduceLE, Int.reduceLT, Int.reduceEq, Int.reduceNe, Int.reduceAdd, Int.reduceSub, Int.reduceNeg, Int.toNat_natCast, Int.cast_ofNat_Int, Int.natCast_zero, Int.natCast_one, reduceCtorEq, reduceIte, Nat.lt_irrefl, and_self, not_false_eq_true, not_true_eq_false, LabH, nO, nM, nI, nP, Ins.v, Ins.row, Cal.v, Cal.row, List.map_set, zrow, e1])
  · simp -implicitDefEqProofs only [go_sem, Nat.reduceEqDiff, Nat.reduceAdd, Nat.reduceSub, Nat.reduceMul, Nat.reduceLeDiff, Nat.reduceLT, Nat.reduceBEq, Int.reduceToNat, Int.reduceLE, Int.reduceLT, Int.reduceEq, Int.reduceNe, Int.reduceAdd, Int.reduceSub, Int.reduceNeg, Int.toNat_natCast, Int.cast_ofNat_Int, Int.natCast_zero, Int.natCast_one, reduceCtorEq, reduceIte, Nat.lt_irrefl, and_self, not_false_eq_true, not_true_eq_false, LabH, nO, nM, nI, nP, Ins.v, Ins.row, Cal.v, Cal.row, c]
    clear ih
    generalize at_ cs k = L at hg hok hin
    refine CallS.at [2, 3, 4, 5] [0, 1] (finishD_c L so sm si sp _ hok) rfl rfl ?_
    rintro r h' n1 hn ⟨rfl, rfl⟩
    rw [finV_eq]
    simp -implicitDefEqProofs only [go_sem, Nat.reduceEqDiff, Nat.reduceAdd, Nat.reduceSub, Nat.reduceMul, Nat.reduceLeDiff, Nat.reduceLT, Nat.reduceBEq, Int.reduceToNat, Int.reduceLE, Int.reduceLT, Int.reduceEq, Int.reduceNe, Int.reduceAdd, Int.reduceSub, Int.reduceNeg, Int.toNat_natCast, Int.cast_ofNat_Int, Int.natCast_zero, Int.natCast_one, reduceCtorEq, reduceIte, Nat.lt_irrefl, and_self, not_false_eq_true, not_true_eq_false, LabH, nO, nM, nI, nP, Ins.v, Ins.row, Cal.v, Cal.row]
    refine Run.go 100 ?_
    simp -implicitDefEqProofs only [go_sem, Nat.reduceEqDiff, Nat.reduceAdd, Nat.reduceSub, Nat.reduceMul, Nat.reduceLeDiff, Nat.reduceLT, Nat.reduceBEq, Int.reduceToNat, Int.reduceLE, Int.reduceLT, Int.reduceEq, Int.reduceNe, Int.reduceAdd, Int.reduceSub, Int.reduceNeg, Int.toNat_natCast, Int.cast_ofNat_Int, Int.natCast_zero, Int.natCast_one, reduceCtorEq, reduceIte, Nat.lt_irrefl, and_self, not_false_eq_true, not_true_eq_false, LabH, nO, nM, nI, nP, Ins.v, Ins.row, Cal.v, Cal.row]
    have hgn := hg.n
    have hI := hok.items
    have hpl := hg.len
    have hlb : ∀ y ∈ g, y.kind = 1 → 0 ≤ y.label ∧ y.label < 101 := fun y hy hk => by
      rcases hg.each y hy with ⟨h1, _⟩ | ⟨_, _, _, h4, h5⟩
      · omega
      · have := hin.places; omega
    refine Run.rounds (fun (j : Nat) => ⟨[(126, .int .i64 j), (125, .int .i64 g.length), (12, .bool ((g.take j).all (goodC pl g.length))), (11, .int .i64 L.fin.2.2), (10, .isl (L.fin.2.1.map lineR)), (9, .isl (L.fin.1.map Ins.row)), (5, .sl (5 * 10000 + 25) sg 0 g.length), (4, .sl (5 * 10000 + 24) n' 0 101)],
      [((5 * 10000 + 25), sg, .rows 8 (g.map Cal.row)), ((5 * 10000 + 24), n', .rows 1 (pl.map zrow))], n1⟩) (fun j => j ≤ g.length) (fun j => g.length - j) 0 (by simp -implicitDefEqProofs only [go_sem, Nat.reduceEqDiff, Nat.reduceAdd, Nat.reduceSub, Nat.reduceMul, Nat.reduceLeDiff, Nat.reduceLT, Nat.reduceBEq, Int.reduceToNat, Int.reduceLE, Int.reduceLT, Int.reduceEq, Int.reduceNe, Int.reduceAdd, Int.reduceSub, Int.reduceNeg, Int.toNat_natCast, Int.cast_ofNat_Int, Int.natCast_zero, Int.natCast_one, reduceCtorEq, reduceIte, Nat.lt_irrefl, and_self, not_false_eq_true, not_true_eq_false, LabH, nO, nM, nI, nP, Ins.v, Ins.row, Cal.v, Cal.row, List.all_nil]) (by omega) ?_
    intro j hj ih
    refine Run.unf scriptinglaw38_LabelsTargets_l1_eq (Run.go 100 ?_)
    have hz : ((j + 1 : Nat) : Int) = (j : Int) + 1 := by omega
    simp -implicitDefEqProofs only [go_sem, Nat.reduceEqDiff, Nat.reduceAdd, Nat.reduceSub, Nat.reduceMul, Nat.reduceLeDiff, Nat.reduceLT, Nat.reduceBEq, Int.reduceToNat, Int.reduceLE, Int.reduceLT, Int.reduceEq, Int.reduceNe, Int.reduceAdd, Int.reduceSub, Int.reduceNeg, Int.toNat_natCast, Int.cast_ofNat_Int, Int.natCast_zero, Int.natCast_one, reduceCtorEq, reduceIte, Nat.lt_irrefl, and_self, not_false_eq_true, not_true_eq_false, LabH, nO, nM, nI, nP, Ins.v, Ins.row, Cal.v, Cal.row]
    refine ⟨fun c => ⟨by omega, by omega, by omega, fun y hy => ?_⟩, fun c => ?_⟩
    · have hall : (g.take (j + 1)).all (goodC pl g.length) = ((g.take j).all (goodC pl g.length) && goodC pl g.length y) := by
        rw [List.take_add_one, hy, Option.toList_some, List.all_append]; simp
      have hym := List.mem_of_getElem? hy
      refine ⟨fun h1 => ?_, fun h1 => ?_⟩
      · obtain ⟨l1, l2⟩ := hlb y hym h1
        refine ⟨by omega, by omega, by omega, fun y2 hy2 => ?_⟩
        obtain rfl : y = y2 := Option.some.inj (hy.symm.trans hy2)
        refine ⟨l1, l2, by omega, fun q hq => ?_⟩
        have ht : tgt pl y = q := by rw [tgt, getD_some hq]
        have hgd : goodC pl g.length y = decide (0 ≤ q ∧ q < g.length) := by simp [goodC, h1, ht]
        generalize (g.take j).all (goodC pl g.length) = b at *
        have nx : ∀ s b', b' = (g.take (j + 1)).all (goodC pl g.length) → Weak s ⟨[(126, .int .i64 ((j : Int) + 1)), (125, .int .i64 g.length), (12, .bool b'), (11, .int .i64 L.fin.2.2), (10, .isl (L.fin.2.1.map lineR)), (9, .isl (L.fin.1.map Ins.row)), (5, .sl (5 * 10000 + 25) sg 0 g.length), (4, .sl (5 * 10000 + 24) n' 0 101)],
            [((5 * 10000 + 25), sg, .rows 8 (g.map Cal.row)), ((5 * 10000 + 24), n', .rows 1 (pl.map zrow))], n1⟩ → _ :=
          fun s b' hb hw => ih s (j + 1) (by omega) (by omega) (by simp only [hz, ← hb]; exact hw)
        simp -implicitDefEqProofs only [go_sem, Nat.reduceEqDiff, Nat.reduceAdd, Nat.reduceSub, Nat.reduceMul, Nat.reduceLeDiff, Nat.reduceLT, Nat.reduceBEq, Int.reduceToNat, Int.reduceLE, Int.reduceLT, Int.reduceEq, Int.reduceNe, Int.reduceAdd, Int.reduceSub, Int.reduceNeg, Int.toNat_natCast, Int.cast_ofNat_Int, Int.natCast_zero, Int.natCast_one, reduceCtorEq, reduceIte, Nat.lt_irrefl, and_self, not_false_eq_true, not_true_eq_false, LabH, nO, nM, nI, nP, Ins.v, Ins.row, Cal.v, Cal.row, zrow]
        repeat' (first | refine And.intro ?_ ?_ | refine fun h => ?_)
        all_goals first
          | omega
          | (refine nx _ (decide (q < (g.length : Int))) ?_ (by simp -implicitDefEqProofs only [go_sem, Nat.reduceEqDiff, Nat.reduceAdd, Nat.reduceSub, Nat.reduceMul, Nat.reduceLeDiff, Nat.reduceLT, Nat.reduceBEq, Int.reduceToNat, Int.reduceLE, Int.reduceLT, Int.reduceEq, Int.reduceNe, Int.reduceAdd, Int.reduceSub, Int.reduceNeg, Int.toNat_natCast, Int.cast_ofNat_Int, Int.natCast_zero, Int.natCast_one, reduceCtorEq, reduceIte, Nat.lt_irrefl, and_self, not_false_eq_true, not_true_eq_false, LabH, nO, nM, nI, nP, Ins.v, Ins.row, Cal.v, Cal.row]; done)
             rw [hall, hgd]
             clear hall nx hgd
             subst_vars
             simp [*]
             done)
          | (refine nx _ false ?_ (by simp -implicitDefEqProofs only [go_sem, Nat.reduceEqDiff, Nat.reduceAdd, Nat.reduceSub, Nat.reduceMul, Nat.reduceLeDiff, Nat.reduceLT, Nat.reduceBEq, Int.reduceToNat, Int.reduceLE, Int.reduceLT, Int.reduceEq, Int.reduceNe, Int.reduceAdd, Int.reduceSub, Int.reduceNeg, Int.toNat_natCast, Int.cast_ofNat_Int, Int.natCast_zero, Int.natCast_one, reduceCtorEq, reduceIte, Nat.lt_irrefl, and_self, not_false_eq_true, not_true_eq_false, LabH, nO, nM, nI, nP, Ins.v, Ins.row, Cal.v, Cal.row]; done)
             rw [hall, hgd]
             clear hall nx hgd
             subst_vars
             simp [*]
             done)
      · have hgd : goodC pl g.length y = true := by simp [goodC, h1]
        refine ⟨by omega, ih _ (j + 1) (by omega) (by omega) ?_⟩
        simp only [hz, hall, hgd, Bool.and_true]
        simp -implicitDefEqProofs only [go_sem, Nat.reduceEqDiff, Nat.reduceAdd, Nat.reduceSub, Nat.reduceMul, Nat.reduceLeDiff, Nat.reduceLT, Nat.reduceBEq, Int.reduceToNat, Int.reduceLE, Int.reduceLT, Int.reduceEq, Int.reduceNe, Int.reduceAdd, Int.reduceSub, Int.reduceNeg, Int.toNat_natCast, Int.cast_ofNat_Int, Int.natCast_zero, Int.natCast_one, reduceCtorEq, reduceIte, Nat.lt_irrefl, and_self, not_false_eq_true, not_true_eq_false, LabH, nO, nM, nI, nP, Ins.v, Ins.row, Cal.v, Cal.row]
    · have : j = g.length := by omega
      subst this
      rw [List.take_length]
      clear ih
      have hfin := hg.finish hok
      cases hgall : g.all (goodC pl g.length) with
      | false =>
        rw [hgall] at hfin
        have hF : L.fin = ([], [], 12) := by rw [Lab.fin, hfin]; rfl
        rw [hF]
        simp -implicitDefEqProofs only [go_sem, Nat.reduceEqDiff, Nat.reduceAdd, Nat.reduceSub, Nat.reduceMul, Nat.reduceLeDiff, Nat.reduceLT, Nat.reduceBEq, Int.reduceToNat, Int.reduceLE, Int.reduceLT, Int.reduceEq, Int.reduceNe, Int.reduceAdd, Int.reduceSub, Int.reduceNeg, Int.toNat_natCast, Int.cast_ofNat_Int, Int.natCast_zero, Int.natCast_one, reduceCtorEq, reduceIte, Nat.lt_irrefl, and_self, not_false_eq_true, not_true_eq_false, LabH, nO, nM, nI, nP, Ins.v, Ins.row, Cal.v, Cal.row]
        refine CallS.pureF awake_pure (by simp -implicitDefEqProofs only [go_sem, Nat.reduceEqDiff, Nat.reduceAdd, Nat.reduceSub, Nat.reduceMul, Nat.reduceLeDiff, Nat.reduceLT, Nat.reduceBEq, Int.reduceToNat, Int.reduceLE, Int.reduceLT, Int.reduceEq, Int.reduceNe, Int.reduceAdd, Int.reduceSub, Int.reduceNeg, Int.toNat_natCast, Int.cast_ofNat_Int, Int.natCast_zero, Int.natCast_one, reduceCtorEq, reduceIte, Nat.lt_irrefl, and_self, not_false_eq_true, not_true_eq_false, LabH, nO, nM, nI, nP, Ins.v, Ins.row, Cal.v, Cal.row]) ?_
        simp -implicitDefEqProofs only [go_sem, Nat.reduceEqDiff, Nat.reduceAdd, Nat.reduceSub, Nat.reduceMul, Nat.reduceLeDiff, Nat.reduceLT, Nat.reduceBEq, Int.reduceToNat, Int.reduceLE, Int.reduceLT, Int.reduceEq, Int.reduceNe, Int.reduceAdd, Int.reduceSub, Int.reduceNeg, Int.toNat_natCast, Int.cast_ofNat_Int, Int.natCast_zero, Int.natCast_one, reduceCtorEq, reduceIte, Nat.lt_irrefl, and_self, not_false_eq_true, not_true_eq_false, LabH, nO, nM, nI, nP, Ins.v, Ins.row, Cal.v, Cal.row]
      | true =>
        rw [hgall] at hfin
        have hF : L.fin = (g.map (outI pl), L.items, 0) := by rw [Lab.fin, hfin]; rfl
        rw [hF]
        have a0 : ((g.map (outI pl)).map Ins.row).length = g.length := by simp
        have a1 : (L.items.map lineR).length = g.length := by simp [hgn]
        have a2 := rowszI (g.map (outI pl))
        have a3 := rowszL L.items
        have a4 : ∀ (j : Nat) (y : Cal), g[j]? = some y → ((g.map (outI pl)).map Ins.row)[j]? = some (outI pl y).row := fun j y h => by simp [h]
        have a5 : ∀ (j : Nat) (y : Cal), g[j]? = some y → (L.items.map lineR)[j]? = some [.int .i64 y.line] := fun j y h => by
          rw [hg.items, List.map_map, List.getElem?_map, h]
          simp only [Option.map_some, Function.comp, lineR, toItm]
          split <;> rfl
        simp only
        generalize (g.map (outI pl)).map Ins.row = A at *
        generalize L.items.map lineR = B at *
        simp -implicitDefEqProofs only [go_sem, Nat.reduceEqDiff, Nat.reduceAdd, Nat.reduceSub, Nat.reduceMul, Nat.reduceLeDiff, Nat.reduceLT, Nat.reduceBEq, Int.reduceToNat, Int.reduceLE, Int.reduceLT, Int.reduceEq, Int.reduceNe, Int.reduceAdd, Int.reduceSub, Int.reduceNeg, Int.toNat_natCast, Int.cast_ofNat_Int, Int.natCast_zero, Int.natCast_one, reduceCtorEq, reduceIte, Nat.lt_irrefl, and_self, not_false_eq_true, not_true_eq_false, LabH, nO, nM, nI, nP, Ins.v, Ins.row, Cal.v, Cal.row, a0, a1]
        refine ⟨fun hne => absurd (by omega) hne, fun _ => ?_⟩
        have b0 : (g.map Cal.row).length = g.length := by simp
        have b4 : ∀ (j : Nat) (y : Cal), g[j]? = some y → (g.map Cal.row)[j]? = some y.row := fun j y h => by simp [h]
        have p0 : (pl.map zrow).length = 101 := by simp [hpl]
        have p4 : ∀ (j : Nat) (q : Int), pl[j]? = some q → (pl.map zrow)[j]? = some [.int .i64 q] := fun j q h => by simp [h, zrow]
        have hgood : ∀ y ∈ g, goodC pl g.length y = true := fun y hy => List.all_eq_true.1 hgall y hy
        have heach := hg.each
        generalize g.map Cal.row = GR at *
        generalize pl.map zrow = PL at *
        clear hfin hgall hF hrow hsz hrep
        refine Run.rounds (fun (x : Nat × Nat) => ⟨[(194, .int .i64 x.1), (193, .int .i64 g.length), (10, .isl B), (9, .isl A), (5, .sl (5 * 10000 + 25) sg 0 g.length), (4, .sl (5 * 10000 + 24) n' 0 101)],
          [((5 * 10000 + 25), sg, .rows 8 GR), ((5 * 10000 + 24), n', .rows 1 PL)], x.2⟩) (fun x => x.1 ≤ g.length) (fun x => g.length - x.1) (0, n1) (by simp -implicitDefEqProofs only [go_sem, Nat.reduceEqDiff, Nat.reduceAdd, Nat.reduceSub, Nat.reduceMul, Nat.reduceLeDiff, Nat.reduceLT, Nat.reduceBEq, Int.reduceToNat, Int.reduceLE, Int.reduceLT, Int.reduceEq, Int.reduceNe, Int.reduceAdd, Int.reduceSub, Int.reduceNeg, Int.toNat_natCast, Int.cast_ofNat_Int, Int.natCast_zero, Int.natCast_one, reduceCtorEq, reduceIte, Nat.lt_irrefl, and_self, not_false_eq_true, not_true_eq_false, LabH, nO, nM, nI, nP, Ins.v, Ins.row, Cal.v, Cal.row]) (by simp only; omega) ?_
        rintro ⟨j, n1⟩ hj ih
        simp only at hj ⊢
        refine Run.unf scriptinglaw38_LabelsTargets_l2_eq (Run.go 100 ?_)
        have hz : ((j + 1 : Nat) : Int) = (j : Int) + 1 := by omega
        by_cases c : (j : Int) < g.length
        rotate_left
        · simp -implicitDefEqProofs only [go_sem, Nat.reduceEqDiff, Nat.reduceAdd, Nat.reduceSub, Nat.reduceMul, Nat.reduceLeDiff, Nat.reduceLT, Nat.reduceBEq, Int.reduceToNat, Int.reduceLE, Int.reduceLT, Int.reduceEq, Int.reduceNe, Int.reduceAdd, Int.reduceSub, Int.reduceNeg, Int.toNat_natCast, Int.cast_ofNat_Int, Int.natCast_zero, Int.natCast_one, reduceCtorEq, reduceIte, Nat.lt_irrefl, and_self, not_false_eq_true, not_true_eq_false, LabH, nO, nM, nI, nP, Ins.v, Ins.row, Cal.v, Cal.row, c]
          refine CallS.pureF awake_pure (by simp -implicitDefEqProofs only [go_sem, Nat.reduceEqDiff, Nat.reduceAdd, Nat.reduceSub, Nat.reduceMul, Nat.reduceLeDiff, Nat.reduceLT, Nat.reduceBEq, Int.reduceToNat, Int.reduceLE, Int.reduceLT, Int.reduceEq, Int.reduceNe, Int.reduceAdd, Int.reduceSub, Int.reduceNeg, Int.toNat_natCast, Int.cast_ofNat_Int, Int.natCast_zero, Int.natCast_one, reduceCtorEq, reduceIte, Nat.lt_irrefl, and_self, not_false_eq_true, not_true_eq_false, LabH, nO, nM, nI, nP, Ins.v, Ins.row, Cal.v, Cal.row]) ?_
          simp -implicitDefEqProofs only [go_sem, Nat.reduceEqDiff, Nat.reduceAdd, Nat.reduceSub, Nat.reduceMul, Nat.reduceLeDiff, Nat.reduceLT, Nat.reduceBEq, Int.reduceToNat, Int.reduceLE, Int.reduceLT, Int.reduceEq, Int.reduceNe, Int.reduceAdd, Int.reduceSub, Int.reduceNeg, Int.toNat_natCast, Int.cast_ofNat_Int, Int.natCast_zero, Int.natCast_one, reduceCtorEq, reduceIte, Nat.lt_irrefl, and_self, not_false_eq_true, not_true_eq_false, LabH, nO, nM, nI, nP, Ins.v, Ins.row, Cal.v, Cal.row]
        obtain ⟨y, hy⟩ : ∃ y, g[j]? = some y := ⟨g[j]'(by omega), by simp⟩
        have hym := List.mem_of_getElem? hy
        have hA := a4 j y hy
        have hB := a5 j y hy
        have hG := b4 j y hy
        have k0 : ((0 : Int) ≤ (j : Int)) = True := eq_true (by omega)
        have k1 : ((j : Int) < (g.length : Int)) = True := eq_true c
        have k2 : (j < g.length) = True := eq_true (by omega)
        have next : ∀ s m', Weak s ⟨[(194, .int .i64 ((j : Int) + 1)), (193, .int .i64 g.length), (10, .isl B), (9, .isl A), (5, .sl (5 * 10000 + 25) sg 0 g.length), (4, .sl (5 * 10000 + 24) n' 0 101)],
          [((5 * 10000 + 25), sg, .rows 8 GR), ((5 * 10000 + 24), n', .rows 1 PL)], m'⟩ → _ := fun s m' hw => ih s (j + 1, m') (by simp only; omega) (by simp only; omega) (by simp only [hz]; exact hw)
        clear ih
        rcases heach y hym with ⟨h1, h2⟩ | ⟨h1, h2, h3, h4, h5⟩
        · have ho : outI pl y = y.i := by rw [outI, if_neg (by omega)]
          rw [ho] at hA
          simp -implicitDefEqProofs only [go_sem, Nat.reduceEqDiff, Nat.reduceAdd, Nat.reduceSub, Nat.reduceMul, Nat.reduceLeDiff, Nat.reduceLT, Nat.reduceBEq, Int.reduceToNat, Int.reduceLE, Int.reduceLT, Int.reduceEq, Int.reduceNe, Int.reduceAdd, Int.reduceSub, Int.reduceNeg, Int.toNat_natCast, Int.cast_ofNat_Int, Int.natCast_zero, Int.natCast_one, reduceCtorEq, reduceIte, Nat.lt_irrefl, and_self, not_false_eq_true, not_true_eq_false, LabH, nO, nM, nI, nP, Ins.v, Ins.row, Cal.v, Cal.row, h1, hA, hB, hG, a0, a1, a2, a3, b0, k0, k1, k2, Option.some.injEq, forall_eq']
          refine CallS.pureF (check_pure y.i) (by simp -implicitDefEqProofs only [go_sem, Nat.reduceEqDiff, Nat.reduceAdd, Nat.reduceSub, Nat.reduceMul, Nat.reduceLeDiff, Nat.reduceLT, Nat.reduceBEq, Int.reduceToNat, Int.reduceLE, Int.reduceLT, Int.reduceEq, Int.reduceNe, Int.reduceAdd, Int.reduceSub, Int.reduceNeg, Int.toNat_natCast, Int.cast_ofNat_Int, Int.natCast_zero, Int.natCast_one, reduceCtorEq, reduceIte, Nat.lt_irrefl, and_self, not_false_eq_true, not_true_eq_false, LabH, nO, nM, nI, nP, Ins.v, Ins.row, Cal.v, Cal.row]) ?_
          simp -implicitDefEqProofs only [go_sem, Nat.reduceEqDiff, Nat.reduceAdd, Nat.reduceSub, Nat.reduceMul, Nat.reduceLeDiff, Nat.reduceLT, Nat.reduceBEq, Int.reduceToNat, Int.reduceLE, Int.reduceLT, Int.reduceEq, Int.reduceNe, Int.reduceAdd, Int.reduceSub, Int.reduceNeg, Int.toNat_natCast, Int.cast_ofNat_Int, Int.natCast_zero, Int.natCast_one, reduceCtorEq, reduceIte, Nat.lt_irrefl, and_self, not_false_eq_true, not_true_eq_false, LabH, nO, nM, nI, nP, Ins.v, Ins.row, Cal.v, Cal.row, h2]
          exact ⟨by omega, next _ (n1 + 1) (by simp -implicitDefEqProofs only [go_sem, Nat.reduceEqDiff, Nat.reduceAdd, Nat.reduceSub, Nat.reduceMul, Nat.reduceLeDiff, Nat.reduceLT, Nat.reduceBEq, Int.reduceToNat, Int.reduceLE, Int.reduceLT, Int.reduceEq, Int.reduceNe, Int.reduceAdd, Int.reduceSub, Int.reduceNeg, Int.toNat_natCast, Int.cast_ofNat_Int, Int.natCast_zero, Int.natCast_one, reduceCtorEq, reduceIte, Nat.lt_irrefl, and_self, not_false_eq_true, not_true_eq_false, LabH, nO, nM, nI, nP, Ins.v, Ins.row, Cal.v, Cal.row])⟩
        · have hgd := hgood y hym
          obtain ⟨q, hq⟩ : ∃ q, pl[y.label.toNat]? = some q := ⟨pl[y.label.toNat]'(by have := hin.places; omega), by simp⟩
          have ht : tgt pl y = q := by rw [tgt, getD_some hq]
          have hP := p4 _ _ hq
          simp only [goodC, h1, ht, decide_true, Bool.not_true, Bool.false_or, decide_eq_true_eq] at hgd
          have ho : outI pl y = { y.i with b := q } := by rw [outI, if_pos h1, ht]
          rw [ho] at hA
          have m0 : ((0 : Int) ≤ y.label) = True := eq_true h4
          have m1 : (y.label < (101 : Int)) = True := eq_true (by have := hin.places; omega)
          have m2 : (y.label.toNat < 101) = True := eq_true (by have := hin.places; omega)
          simp -implicitDefEqProofs only [go_sem, Nat.reduceEqDiff, Nat.reduceAdd, Nat.reduceSub, Nat.reduceMul, Nat.reduceLeDiff, Nat.reduceLT, Nat.reduceBEq, Int.reduceToNat, Int.reduceLE, Int.reduceLT, Int.reduceEq, Int.reduceNe, Int.reduceAdd, Int.reduceSub, Int.reduceNeg, Int.toNat_natCast, Int.cast_ofNat_Int, Int.natCast_zero, Int.natCast_one, reduceCtorEq, reduceIte, Nat.lt_irrefl, and_self, not_false_eq_true, not_true_eq_false, LabH, nO, nM, nI, nP, Ins.v, Ins.row, Cal.v, Cal.row, h1, hA, hB, hG, hP, a0, a1, a2, a3, b0, p0, k0, k1, k2, m0, m1, m2, Option.some.injEq, forall_eq']
          have h6 := chk_b h2 h3 hgd.1 (by omega)
          refine CallS.pureF (check_pure { y.i with b := q }) (by simp -implicitDefEqProofs only [go_sem, Nat.reduceEqDiff, Nat.reduceAdd, Nat.reduceSub, Nat.reduceMul, Nat.reduceLeDiff, Nat.reduceLT, Nat.reduceBEq, Int.reduceToNat, Int.reduceLE, Int.reduceLT, Int.reduceEq, Int.reduceNe, Int.reduceAdd, Int.reduceSub, Int.reduceNeg, Int.toNat_natCast, Int.cast_ofNat_Int, Int.natCast_zero, Int.natCast_one, reduceCtorEq, reduceIte, Nat.lt_irrefl, and_self, not_false_eq_true, not_true_eq_false, LabH, nO, nM, nI, nP, Ins.v, Ins.row, Cal.v, Cal.row]) ?_
          simp -implicitDefEqProofs only [go_sem, Nat.reduceEqDiff, Nat.reduceAdd, Nat.reduceSub, Nat.reduceMul, Nat.reduceLeDiff, Nat.reduceLT, Nat.reduceBEq, Int.reduceToNat, Int.reduceLE, Int.reduceLT, Int.reduceEq, Int.reduceNe, Int.reduceAdd, Int.reduceSub, Int.reduceNeg, Int.toNat_natCast, Int.cast_ofNat_Int, Int.natCast_zero, Int.natCast_one, reduceCtorEq, reduceIte, Nat.lt_irrefl, and_self, not_false_eq_true, not_true_eq_false, LabH, nO, nM, nI, nP, Ins.v, Ins.row, Cal.v, Cal.row, h6]
          exact ⟨by omega, next _ (n1 + 1) (by simp -implicitDefEqProofs only [go_sem, Nat.reduceEqDiff, Nat.reduceAdd, Nat.reduceSub, Nat.reduceMul, Nat.reduceLeDiff, Nat.reduceLT, Nat.reduceBEq, Int.reduceToNat, Int.reduceLE, Int.reduceLT, Int.reduceEq, Int.reduceNe, Int.reduceAdd, Int.reduceSub, Int.reduceNeg, Int.toNat_natCast, Int.cast_ofNat_Int, Int.natCast_zero, Int.natCast_one, reduceCtorEq, reduceIte, Nat.lt_irrefl, and_self, not_false_eq_true, not_true_eq_false, LabH, nO, nM, nI, nP, Ins.v, Ins.row, Cal.v, Cal.row])⟩

end Go.Proofs.YtlckjdhammcpaaaDoor
