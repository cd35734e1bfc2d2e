/-
  A call of a method, by the program and by the reference; codes compared; the examples. No condition.
-/
import Derived.Test.YtlckjdhammcpaaaDoorLabR2
set_option linter.unusedVariables false
set_option linter.unusedSimpArgs false
set_option maxRecDepth 100000
set_option maxHeartbeats 0
namespace Go.Proofs.YtlckjdhammcpaaaDoor
open Go.Abs
attribute [local irreducible] CallS Run
-- EV: Ins.v, Ins.row, Cal.v, Cal.row

/-! The codes stay well. -/
theorem Lab.OK.new : Lab.OK Lab.new := ⟨by simp [Lab.new], by simp [Lab.new], by simp [Lab.new], by simp [Lab.new]⟩
structure Lab.Up (L L' : Lab) : Prop where
  items : L'.items.length ≤ L.items.length + 1
  places : L'.places.length ≤ L.places.length + 1
/-- What holds of a code behind at most so many calls. -/
structure Lab.In (L : Lab) (k : Nat) : Prop where
  items : L.items.length ≤ k
  places : L.places.length ≤ k
  label : ∀ x ∈ L.items, -1 ≤ x.label ∧ x.label < L.places.length
  at_ : ∀ p ∈ L.places, -1 ≤ p ∧ p ≤ k
theorem Lab.In.ok {L : Lab} {k : Nat} (h : L.In k) (hk : k ≤ 1000) : L.OK := ⟨Nat.le_trans h.items hk, Nat.le_trans h.places hk, h.label, fun p hp => by have := h.at_ p hp; omega⟩
theorem Lab.In.up {L : Lab} {k k' : Nat} (h : L.In k) (hk : k ≤ k') : L.In k' := ⟨Nat.le_trans h.items hk, Nat.le_trans h.places hk, h.label, fun p hp => by have := h.at_ p hp; omega⟩
theorem Lab.In.new : Lab.new.In 0 := ⟨by simp [Lab.new], by simp [Lab.new], by simp [Lab.new], by simp [Lab.new]⟩
theorem Lab.In.add {L : Lab} {k : Nat} (h : L.In k) {i : Ins} {line label : Int} (hl : -1 ≤ label ∧ label < L.places.length) : (L.add i line label).2.2.In (k + 1) := by
  refine ⟨by have := h.items; simp [Lab.add]; omega, by have := h.places; simp [Lab.add]; omega, fun x hx => ?_, fun p hp => by have := h.at_ p hp; omega⟩
  rcases List.mem_append.1 hx with hx | hx
  · exact h.label x hx
  · rw [List.mem_singleton.1 hx]; exact hl
theorem Lab.In.call {L : Lab} {k : Nat} (h : L.In k) (c : Cal) : (L.call c).2.2.In (k + 1) := by
  have same := h.up (Nat.le_succ k)
  unfold Lab.call
  split
  · unfold Lab.emit
    split
    · exact same
    split
    · exact same
    · exact h.add ⟨by omega, by omega⟩
  split
  · unfold Lab.jump
    split
    · exact same
    split
    · exact same
    split
    · exact same
    split
    · exact same
    · exact h.add ⟨by omega, by omega⟩
  split
  · refine ⟨Nat.le_succ_of_le h.items, by have := h.places; simp [Lab.label]; omega, fun x hx => ?_, fun p hp => ?_⟩
    · have := h.label x hx; simp [Lab.label]; omega
    · rcases List.mem_append.1 hp with hp | hp
      · have := h.at_ p hp; omega
      · rw [List.mem_singleton.1 hp]; omega
  · unfold Lab.place
    split
    · exact same
    split
    · exact same
    · refine ⟨Nat.le_succ_of_le h.items, by have := h.places; simp; omega, fun x hx => ?_, fun p hp => ?_⟩
      · have := h.label x hx; simp; omega
      · rcases List.mem_or_eq_of_mem_set hp with hp | rfl
        · have := h.at_ p hp; omega
        · have := h.items; omega

theorem program_c (L : Lab) (so sm si sp n : Nat) (c : Cal) (hok : L.OK) :
    CallS Tryd.prog 13 [.ptr nO so 0 0, c.v] (LabH so sm si sp L) n
      (fun r h' _ => ∃ si' sp', r = .tup [.int .i64 (L.call c).1, .int .i64 (L.call c).2.1] ∧ h' = LabH so sm si' sp' (L.call c).2.2) := by
  refine CallS.enterK scriptinglaw38_program_ok (Nat.le_of_ble_eq_true rfl) fun Q hQ => Run.go 100 ?_
  have hI := hok.items
  have hP := hok.places
  simp -implicitDefEqProofs only [go_sem, Nat.reduceEqDiff, Nat.reduceAdd, Nat.reduceSub, Nat.reduceMul, Nat.reduceLeDiff, Nat.reduceLT, Nat.reduceBEq, Int.reduceToNat, Int.reduceLE, Int.reduceLT, Int.reduceEq, Int.reduceNe, Int.reduceAdd, Int.reduceSub, Int.reduceNeg, Int.toNat_natCast, Int.cast_ofNat_Int, Int.natCast_zero, Int.natCast_one, reduceCtorEq, reduceIte, Nat.lt_irrefl, and_self, not_false_eq_true, not_true_eq_false, Ins.v, Ins.row, Cal.v, Cal.row, initSl]
  refine ⟨fun h0 => ?_, fun h0 => ⟨fun h1 => ?_, fun h1 => ⟨fun h2 => ?_, fun h2 => ?_⟩⟩⟩
  · refine CallS.at [1, 2, 3, 4] [0] (emit_c L so sm si sp _ c.i c.line hI) rfl rfl ?_
    rintro r h' n' hn ⟨si', rfl, rfl⟩
    simp -implicitDefEqProofs only [go_sem, Nat.reduceEqDiff, Nat.reduceAdd, Nat.reduceSub, Nat.reduceMul, Nat.reduceLeDiff, Nat.reduceLT, Nat.reduceBEq, Int.reduceToNat, Int.reduceLE, Int.reduceLT, Int.reduceEq, Int.reduceNe, Int.reduceAdd, Int.reduceSub, Int.reduceNeg, Int.toNat_natCast, Int.cast_ofNat_Int, Int.natCast_zero, Int.natCast_one, reduceCtorEq, reduceIte, Nat.lt_irrefl, and_self, not_false_eq_true, not_true_eq_false, Ins.v, Ins.row, Cal.v, Cal.row]
    subst hQ; rw [Lab.call, if_pos h0]; exact .to ⟨si', sp, rfl, rfl⟩ (.turn id ⟨(by first | exact SameV.refl _ | (refine SameV.of_eq ?_; simp [sget]; done) | (refine SameV.of_eq ?_; simp [sget, Ins.v, Ins.row, Cal.v, Cal.row]; done)), trivial⟩ (.at 0 rfl rfl (by first | exact SameB.refl _ | (refine SameB.of_eq ?_; simp; done) | (refine SameB.of_eq ?_; simp [Ins.v, Ins.row, Cal.v, Cal.row]; done)) (.at 1 rfl rfl (by first | exact SameB.refl _ | (refine SameB.of_eq ?_; simp; done) | (refine SameB.of_eq ?_; simp [Ins.v, Ins.row, Cal.v, Cal.row]; done)) (.at 2 rfl rfl (by first | exact SameB.refl _ | (refine SameB.of_eq ?_; simp; done) | (refine SameB.of_eq ?_; simp [Ins.v, Ins.row, Cal.v, Cal.row]; done)) (.at 3 rfl rfl (by first | exact SameB.refl _ | (refine SameB.of_eq ?_; simp; done) | (refine SameB.of_eq ?_; simp [Ins.v, Ins.row, Cal.v, Cal.row]; done)) trivial)))))
  · refine CallS.at [1, 2, 3, 4] [0] (jump_c L so sm si sp _ c.i c.line c.label hI) rfl rfl ?_
    rintro r h' n' hn ⟨si', rfl, rfl⟩
    simp -implicitDefEqProofs only [go_sem, Nat.reduceEqDiff, Nat.reduceAdd, Nat.reduceSub, Nat.reduceMul, Nat.reduceLeDiff, Nat.reduceLT, Nat.reduceBEq, Int.reduceToNat, Int.reduceLE, Int.reduceLT, Int.reduceEq, Int.reduceNe, Int.reduceAdd, Int.reduceSub, Int.reduceNeg, Int.toNat_natCast, Int.cast_ofNat_Int, Int.natCast_zero, Int.natCast_one, reduceCtorEq, reduceIte, Nat.lt_irrefl, and_self, not_false_eq_true, not_true_eq_false, Ins.v, Ins.row, Cal.v, Cal.row]
    subst hQ; rw [Lab.call, if_neg h0, if_pos h1]; exact .to ⟨si', sp, rfl, rfl⟩ (.turn id ⟨(by first | exact SameV.refl _ | (refine SameV.of_eq ?_; simp [sget]; done) | (refine SameV.of_eq ?_; simp [sget, Ins.v, Ins.row, Cal.v, Cal.row]; done)), trivial⟩ (.at 0 rfl rfl (by first | exact SameB.refl _ | (refine SameB.of_eq ?_; simp; done) | (refine SameB.of_eq ?_; simp [Ins.v, Ins.row, Cal.v, Cal.row]; done)) (.at 1 rfl rfl (by first | exact SameB.refl _ | (refine SameB.of_eq ?_; simp; done) | (refine SameB.of_eq ?_; simp [Ins.v, Ins.row, Cal.v, Cal.row]; done)) (.at 2 rfl rfl (by first | exact SameB.refl _ | (refine SameB.of_eq ?_; simp; done) | (refine SameB.of_eq ?_; simp [Ins.v, Ins.row, Cal.v, Cal.row]; done)) (.at 3 rfl rfl (by first | exact SameB.refl _ | (refine SameB.of_eq ?_; simp; done) | (refine SameB.of_eq ?_; simp [Ins.v, Ins.row, Cal.v, Cal.row]; done)) trivial)))))
  · refine CallS.at [1, 2, 3, 4] [0] (label_c L so sm si sp _ hP) rfl rfl ?_
    rintro r h' n' hn ⟨sp', rfl, rfl⟩
    simp -implicitDefEqProofs only [go_sem, Nat.reduceEqDiff, Nat.reduceAdd, Nat.reduceSub, Nat.reduceMul, Nat.reduceLeDiff, Nat.reduceLT, Nat.reduceBEq, Int.reduceToNat, Int.reduceLE, Int.reduceLT, Int.reduceEq, Int.reduceNe, Int.reduceAdd, Int.reduceSub, Int.reduceNeg, Int.toNat_natCast, Int.cast_ofNat_Int, Int.natCast_zero, Int.natCast_one, reduceCtorEq, reduceIte, Nat.lt_irrefl, and_self, not_false_eq_true, not_true_eq_false, Ins.v, Ins.row, Cal.v, Cal.row]
    subst hQ; rw [Lab.call, if_neg h0, if_neg h1, if_pos h2]; exact .to ⟨si, sp', rfl, rfl⟩ (.turn id ⟨(by first | exact SameV.refl _ | (refine SameV.of_eq ?_; simp [sget]; done) | (refine SameV.of_eq ?_; simp [sget, Ins.v, Ins.row, Cal.v, Cal.row]; done)), trivial⟩ (.at 0 rfl rfl (by first | exact SameB.refl _ | (refine SameB.of_eq ?_; simp; done) | (refine SameB.of_eq ?_; simp [Ins.v, Ins.row, Cal.v, Cal.row]; done)) (.at 1 rfl rfl (by first | exact SameB.refl _ | (refine SameB.of_eq ?_; simp; done) | (refine SameB.of_eq ?_; simp [Ins.v, Ins.row, Cal.v, Cal.row]; done)) (.at 2 rfl rfl (by first | exact SameB.refl _ | (refine SameB.of_eq ?_; simp; done) | (refine SameB.of_eq ?_; simp [Ins.v, Ins.row, Cal.v, Cal.row]; done)) (.at 3 rfl rfl (by first | exact SameB.refl _ | (refine SameB.of_eq ?_; simp; done) | (refine SameB.of_eq ?_; simp [Ins.v, Ins.row, Cal.v, Cal.row]; done)) trivial)))))
  · refine CallS.at [1, 2, 3, 4] [0] (place_c L so sm si sp _ c.label hI) rfl rfl ?_
    rintro r h' n' hn ⟨rfl, rfl⟩
    simp -implicitDefEqProofs only [go_sem, Nat.reduceEqDiff, Nat.reduceAdd, Nat.reduceSub, Nat.reduceMul, Nat.reduceLeDiff, Nat.reduceLT, Nat.reduceBEq, Int.reduceToNat, Int.reduceLE, Int.reduceLT, Int.reduceEq, Int.reduceNe, Int.reduceAdd, Int.reduceSub, Int.reduceNeg, Int.toNat_natCast, Int.cast_ofNat_Int, Int.natCast_zero, Int.natCast_one, reduceCtorEq, reduceIte, Nat.lt_irrefl, and_self, not_false_eq_true, not_true_eq_false, Ins.v, Ins.row, Cal.v, Cal.row]
    subst hQ; rw [Lab.call, if_neg h0, if_neg h1, if_neg h2]; exact .to ⟨si, sp, rfl, rfl⟩ (.turn id ⟨(by first | exact SameV.refl _ | (refine SameV.of_eq ?_; simp [sget]; done) | (refine SameV.of_eq ?_; simp [sget, Ins.v, Ins.row, Cal.v, Cal.row]; done)), trivial⟩ (.at 0 rfl rfl (by first | exact SameB.refl _ | (refine SameB.of_eq ?_; simp; done) | (refine SameB.of_eq ?_; simp [Ins.v, Ins.row, Cal.v, Cal.row]; done)) (.at 1 rfl rfl (by first | exact SameB.refl _ | (refine SameB.of_eq ?_; simp; done) | (refine SameB.of_eq ?_; simp [Ins.v, Ins.row, Cal.v, Cal.row]; done)) (.at 2 rfl rfl (by first | exact SameB.refl _ | (refine SameB.of_eq ?_; simp; done) | (refine SameB.of_eq ?_; simp [Ins.v, Ins.row, Cal.v, Cal.row]; done)) (.at 3 rfl rfl (by first | exact SameB.refl _ | (refine SameB.of_eq ?_; simp; done) | (refine SameB.of_eq ?_; simp [Ins.v, Ins.row, Cal.v, Cal.row]; done)) trivial)))))

theorem document_c (L : Lab) (so sc sl sb sp n : Nat) (c : Cal) (hok : L.OK) :
    CallS Tryd.prog 14 [.ptr rO so 0 0, c.v] (RefH so sc sl sb sp L) n
      (fun r h' _ => ∃ sc' sl' sb' sp', r = .tup [.int .i64 (L.call c).1, .int .i64 (L.call c).2.1] ∧ h' = RefH so sc' sl' sb' sp' (L.call c).2.2) := by
  refine CallS.enterK scriptinglaw38_document_ok (Nat.le_of_ble_eq_true rfl) fun Q hQ => Run.go 100 ?_
  have hI := hok.items
  have hP := hok.places
  simp -implicitDefEqProofs only [go_sem, Nat.reduceEqDiff, Nat.reduceAdd, Nat.reduceSub, Nat.reduceMul, Nat.reduceLeDiff, Nat.reduceLT, Nat.reduceBEq, Int.reduceToNat, Int.reduceLE, Int.reduceLT, Int.reduceEq, Int.reduceNe, Int.reduceAdd, Int.reduceSub, Int.reduceNeg, Int.toNat_natCast, Int.cast_ofNat_Int, Int.natCast_zero, Int.natCast_one, reduceCtorEq, reduceIte, Nat.lt_irrefl, and_self, not_false_eq_true, not_true_eq_false, Ins.v, Ins.row, Cal.v, Cal.row, initSl]
  refine ⟨fun h0 => ?_, fun h0 => ⟨fun h1 => ?_, fun h1 => ⟨fun h2 => ?_, fun h2 => ?_⟩⟩⟩
  · refine CallS.at [1, 2, 3, 4, 5] [0] (remit_c L so sc sl sb sp _ c.i c.line hI) rfl rfl ?_
    rintro r h' n' hn ⟨sc', sl', sb', rfl, rfl⟩
    simp -implicitDefEqProofs only [go_sem, Nat.reduceEqDiff, Nat.reduceAdd, Nat.reduceSub, Nat.reduceMul, Nat.reduceLeDiff, Nat.reduceLT, Nat.reduceBEq, Int.reduceToNat, Int.reduceLE, Int.reduceLT, Int.reduceEq, Int.reduceNe, Int.reduceAdd, Int.reduceSub, Int.reduceNeg, Int.toNat_natCast, Int.cast_ofNat_Int, Int.natCast_zero, Int.natCast_one, reduceCtorEq, reduceIte, Nat.lt_irrefl, and_self, not_false_eq_true, not_true_eq_false, Ins.v, Ins.row, Cal.v, Cal.row]
    subst hQ; rw [Lab.call, if_pos h0]; exact .to ⟨sc', sl', sb', sp, rfl, rfl⟩ (.turn id ⟨(by first | exact SameV.refl _ | (refine SameV.of_eq ?_; simp [sget]; done) | (refine SameV.of_eq ?_; simp [sget, Ins.v, Ins.row, Cal.v, Cal.row]; done)), trivial⟩ (.at 0 rfl rfl (by first | exact SameB.refl _ | (refine SameB.of_eq ?_; simp; done) | (refine SameB.of_eq ?_; simp [Ins.v, Ins.row, Cal.v, Cal.row]; done)) (.at 1 rfl rfl (by first | exact SameB.refl _ | (refine SameB.of_eq ?_; simp; done) | (refine SameB.of_eq ?_; simp [Ins.v, Ins.row, Cal.v, Cal.row]; done)) (.at 2 rfl rfl (by first | exact SameB.refl _ | (refine SameB.of_eq ?_; simp; done) | (refine SameB.of_eq ?_; simp [Ins.v, Ins.row, Cal.v, Cal.row]; done)) (.at 3 rfl rfl (by first | exact SameB.refl _ | (refine SameB.of_eq ?_; simp; done) | (refine SameB.of_eq ?_; simp [Ins.v, Ins.row, Cal.v, Cal.row]; done)) (.at 4 rfl rfl (by first | exact SameB.refl _ | (refine SameB.of_eq ?_; simp; done) | (refine SameB.of_eq ?_; simp [Ins.v, Ins.row, Cal.v, Cal.row]; done)) trivial))))))
  · refine CallS.at [1, 2, 3, 4, 5] [0] (rjump_c L so sc sl sb sp _ c.i c.line c.label hI) rfl rfl ?_
    rintro r h' n' hn ⟨sc', sl', sb', rfl, rfl⟩
    simp -implicitDefEqProofs only [go_sem, Nat.reduceEqDiff, Nat.reduceAdd, Nat.reduceSub, Nat.reduceMul, Nat.reduceLeDiff, Nat.reduceLT, Nat.reduceBEq, Int.reduceToNat, Int.reduceLE, Int.reduceLT, Int.reduceEq, Int.reduceNe, Int.reduceAdd, Int.reduceSub, Int.reduceNeg, Int.toNat_natCast, Int.cast_ofNat_Int, Int.natCast_zero, Int.natCast_one, reduceCtorEq, reduceIte, Nat.lt_irrefl, and_self, not_false_eq_true, not_true_eq_false, Ins.v, Ins.row, Cal.v, Cal.row]
    subst hQ; rw [Lab.call, if_neg h0, if_pos h1]; exact .to ⟨sc', sl', sb', sp, rfl, rfl⟩ (.turn id ⟨(by first | exact SameV.refl _ | (refine SameV.of_eq ?_; simp [sget]; done) | (refine SameV.of_eq ?_; simp [sget, Ins.v, Ins.row, Cal.v, Cal.row]; done)), trivial⟩ (.at 0 rfl rfl (by first | exact SameB.refl _ | (refine SameB.of_eq ?_; simp; done) | (refine SameB.of_eq ?_; simp [Ins.v, Ins.row, Cal.v, Cal.row]; done)) (.at 1 rfl rfl (by first | exact SameB.refl _ | (refine SameB.of_eq ?_; simp; done) | (refine SameB.of_eq ?_; simp [Ins.v, Ins.row, Cal.v, Cal.row]; done)) (.at 2 rfl rfl (by first | exact SameB.refl _ | (refine SameB.of_eq ?_; simp; done) | (refine SameB.of_eq ?_; simp [Ins.v, Ins.row, Cal.v, Cal.row]; done)) (.at 3 rfl rfl (by first | exact SameB.refl _ | (refine SameB.of_eq ?_; simp; done) | (refine SameB.of_eq ?_; simp [Ins.v, Ins.row, Cal.v, Cal.row]; done)) (.at 4 rfl rfl (by first | exact SameB.refl _ | (refine SameB.of_eq ?_; simp; done) | (refine SameB.of_eq ?_; simp [Ins.v, Ins.row, Cal.v, Cal.row]; done)) trivial))))))
  · refine CallS.at [1, 2, 3, 4, 5] [0] (rlabel_c L so sc sl sb sp _ hP) rfl rfl ?_
    rintro r h' n' hn ⟨sp', rfl, rfl⟩
    simp -implicitDefEqProofs only [go_sem, Nat.reduceEqDiff, Nat.reduceAdd, Nat.reduceSub, Nat.reduceMul, Nat.reduceLeDiff, Nat.reduceLT, Nat.reduceBEq, Int.reduceToNat, Int.reduceLE, Int.reduceLT, Int.reduceEq, Int.reduceNe, Int.reduceAdd, Int.reduceSub, Int.reduceNeg, Int.toNat_natCast, Int.cast_ofNat_Int, Int.natCast_zero, Int.natCast_one, reduceCtorEq, reduceIte, Nat.lt_irrefl, and_self, not_false_eq_true, not_true_eq_false, Ins.v, Ins.row, Cal.v, Cal.row]
    subst hQ; rw [Lab.call, if_neg h0, if_neg h1, if_pos h2]; exact .to ⟨sc, sl, sb, sp', rfl, rfl⟩ (.turn id ⟨(by first | exact SameV.refl _ | (refine SameV.of_eq ?_; simp [sget]; done) | (refine SameV.of_eq ?_; simp [sget, Ins.v, Ins.row, Cal.v, Cal.row]; done)), trivial⟩ (.at 0 rfl rfl (by first | exact SameB.refl _ | (refine SameB.of_eq ?_; simp; done) | (refine SameB.of_eq ?_; simp [Ins.v, Ins.row, Cal.v, Cal.row]; done)) (.at 1 rfl rfl (by first | exact SameB.refl _ | (refine SameB.of_eq ?_; simp; done) | (refine SameB.of_eq ?_; simp [Ins.v, Ins.row, Cal.v, Cal.row]; done)) (.at 2 rfl rfl (by first | exact SameB.refl _ | (refine SameB.of_eq ?_; simp; done) | (refine SameB.of_eq ?_; simp [Ins.v, Ins.row, Cal.v, Cal.row]; done)) (.at 3 rfl rfl (by first | exact SameB.refl _ | (refine SameB.of_eq ?_; simp; done) | (refine SameB.of_eq ?_; simp [Ins.v, Ins.row, Cal.v, Cal.row]; done)) (.at 4 rfl rfl (by first | exact SameB.refl _ | (refine SameB.of_eq ?_; simp; done) | (refine SameB.of_eq ?_; simp [Ins.v, Ins.row, Cal.v, Cal.row]; done)) trivial))))))
  · refine CallS.at [1, 2, 3, 4, 5] [0] (rplace_c L so sc sl sb sp _ c.label hok) rfl rfl ?_
    rintro r h' n' hn ⟨rfl, rfl⟩
    simp -implicitDefEqProofs only [go_sem, Nat.reduceEqDiff, Nat.reduceAdd, Nat.reduceSub, Nat.reduceMul, Nat.reduceLeDiff, Nat.reduceLT, Nat.reduceBEq, Int.reduceToNat, Int.reduceLE, Int.reduceLT, Int.reduceEq, Int.reduceNe, Int.reduceAdd, Int.reduceSub, Int.reduceNeg, Int.toNat_natCast, Int.cast_ofNat_Int, Int.natCast_zero, Int.natCast_one, reduceCtorEq, reduceIte, Nat.lt_irrefl, and_self, not_false_eq_true, not_true_eq_false, Ins.v, Ins.row, Cal.v, Cal.row]
    subst hQ; rw [Lab.call, if_neg h0, if_neg h1, if_neg h2]; exact .to ⟨sc, sl, sb, sp, rfl, rfl⟩ (.turn id ⟨(by first | exact SameV.refl _ | (refine SameV.of_eq ?_; simp [sget]; done) | (refine SameV.of_eq ?_; simp [sget, Ins.v, Ins.row, Cal.v, Cal.row]; done)), trivial⟩ (.at 0 rfl rfl (by first | exact SameB.refl _ | (refine SameB.of_eq ?_; simp; done) | (refine SameB.of_eq ?_; simp [Ins.v, Ins.row, Cal.v, Cal.row]; done)) (.at 1 rfl rfl (by first | exact SameB.refl _ | (refine SameB.of_eq ?_; simp; done) | (refine SameB.of_eq ?_; simp [Ins.v, Ins.row, Cal.v, Cal.row]; done)) (.at 2 rfl rfl (by first | exact SameB.refl _ | (refine SameB.of_eq ?_; simp; done) | (refine SameB.of_eq ?_; simp [Ins.v, Ins.row, Cal.v, Cal.row]; done)) (.at 3 rfl rfl (by first | exact SameB.refl _ | (refine SameB.of_eq ?_; simp; done) | (refine SameB.of_eq ?_; simp [Ins.v, Ins.row, Cal.v, Cal.row]; done)) (.at 4 rfl rfl (by first | exact SameB.refl _ | (refine SameB.of_eq ?_; simp; done) | (refine SameB.of_eq ?_; simp [Ins.v, Ins.row, Cal.v, Cal.row]; done)) trivial))))))

theorem awake_pure : Pure Tryd.prog 10 [] (.bool true) :=
  Pure.execB (m := 5000) (d := 12) (fr := 1) exT_ok libF_ok (by kernel_rfl)
end Go.Proofs.YtlckjdhammcpaaaDoor
