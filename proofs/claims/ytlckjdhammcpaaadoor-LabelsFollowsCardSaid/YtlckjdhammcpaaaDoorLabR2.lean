/-
  What 'Finish' of the reference of 'labels' does: the same. No condition.
-/
import Derived.Test.YtlckjdhammcpaaaDoorLabR
set_option linter.unusedVariables false
set_option linter.unusedSimpArgs false
set_option maxRecDepth 100000
set_option maxHeartbeats 0
namespace Go.Proofs.YtlckjdhammcpaaaDoor
open Go.Abs
attribute [local irreducible] CallS Run
-- EV: RefH, rO, rC, rL, rB, rP, Ins.v, Ins.row, lineR, codeR, labR, zrow, rFC, rFL

abbrev rFC : Nat := (18 * 10000 + 10)
abbrev rFL : Nat := (18 * 10000 + 67)

theorem rfinish_c (L : Lab) (so sc sl sb sp n : Nat) (hok : L.OK) :
    CallS Tryd.prog 18 [.ptr rO so 0 0] (RefH so sc sl sb sp L) n (fun r h' _ => r = finV L ∧ h' = RefH so sc sl sb sp L) := by
  refine CallS.enterK scriptingref38_Code_Finish_ok (Nat.le_of_ble_eq_true rfl) fun Q hQ => Run.go 100 ?_
  simp -implicitDefEqProofs only [go_sem, Nat.reduceEqDiff, Nat.reduceAdd, Nat.reduceSub, Nat.reduceMul, Nat.reduceLeDiff, Nat.reduceLT, Nat.reduceBEq, Int.reduceToNat, Int.reduceLE, Int.reduceLT, Int.reduceEq, Int.reduceNe, Int.reduceAdd, Int.reduceSub, Int.reduceNeg, Int.toNat_natCast, Int.cast_ofNat_Int, Int.natCast_zero, Int.natCast_one, reduceCtorEq, reduceIte, Nat.lt_irrefl, and_self, not_false_eq_true, not_true_eq_false, RefH, rO, rC, rL, rB, rP, Ins.v, Ins.row, lineR, codeR, labR, zrow, rFC, rFL, initSl]
  have hI := hok.items
  refine Run.rounds (fun (x : Nat × List Ins × Nat × Nat) => ⟨[(6, .int .i64 x.1), (5, .sl rFC x.2.2.1 0 x.1), (0, .ptr rO so 0 0)], (rFC, x.2.2.1, .rows 5 (x.2.1.map Ins.row)) :: RefH so sc sl sb sp L, x.2.2.2⟩)
    (fun x => x.1 ≤ L.items.length ∧ L.fixes (L.items.take x.1) = some x.2.1 ∧ x.2.1.length = x.1) (fun x => L.items.length - x.1) (0, [], n, n + 1) (by simp -implicitDefEqProofs only [go_sem, Nat.reduceEqDiff, Nat.reduceAdd, Nat.reduceSub, Nat.reduceMul, Nat.reduceLeDiff, Nat.reduceLT, Nat.reduceBEq, Int.reduceToNat, Int.reduceLE, Int.reduceLT, Int.reduceEq, Int.reduceNe, Int.reduceAdd, Int.reduceSub, Int.reduceNeg, Int.toNat_natCast, Int.cast_ofNat_Int, Int.natCast_zero, Int.natCast_one, reduceCtorEq, reduceIte, Nat.lt_irrefl, and_self, not_false_eq_true, not_true_eq_false, RefH, rO, rC, rL, rB, rP, Ins.v, Ins.row, lineR, codeR, labR, zrow, rFC, rFL]) ⟨by omega, rfl, rfl⟩ ?_
  rintro ⟨k, ys, st, m⟩ ⟨hk, hy, hl⟩ ih
  simp only at hk hy hl ⊢
  have fixs : ∀ x y, L.items[k]? = some x → L.fix x = some y → L.fixes (L.items.take (k + 1)) = some (ys ++ [y]) := by
    intro x y hx hf
    rw [List.take_add_one, hx, Option.toList_some, Lab.fixes_append, hy]
    simp only [Lab.fixes, hf]
  have bad : ∀ x, L.items[k]? = some x → L.fix x = none → finV L = .tup [.isl [], .isl [], .int .i64 12] := by
    intro x hx hf
    have e : L.items = L.items.take k ++ x :: L.items.drop (k + 1) := by
      have := List.getElem?_eq_some_iff.1 hx
      obtain ⟨h1, h2⟩ := this
      rw [← h2]; simp
    have : L.finish = none := by
      rw [Lab.finish]
      conv => lhs; rw [e]
      rw [Lab.fixes_append, hy]
      simp only [Lab.fixes, hf]
    rw [finV, this]
  refine Run.unf scriptingref38_Code_Finish_l0_eq (Run.go 100 ?_)
  simp -implicitDefEqProofs only [go_sem, Nat.reduceEqDiff, Nat.reduceAdd, Nat.reduceSub, Nat.reduceMul, Nat.reduceLeDiff, Nat.reduceLT, Nat.reduceBEq, Int.reduceToNat, Int.reduceLE, Int.reduceLT, Int.reduceEq, Int.reduceNe, Int.reduceAdd, Int.reduceSub, Int.reduceNeg, Int.toNat_natCast, Int.cast_ofNat_Int, Int.natCast_zero, Int.natCast_one, reduceCtorEq, reduceIte, Nat.lt_irrefl, and_self, not_false_eq_true, not_true_eq_false, RefH, rO, rC, rL, rB, rP, Ins.v, Ins.row, lineR, codeR, labR, zrow, rFC, rFL]
  have tk : (ys.map Ins.row).take k = ys.map Ins.row := List.take_of_length_le (by simp; omega)
  have lab : ∀ x, L.items[k]? = some x → -1 ≤ x.label ∧ x.label < L.places.length := fun x hx => hok.label x (List.mem_of_getElem? hx)
  rw [tk]
  refine ⟨fun hlt => ⟨by omega, by omega, by omega, fun x hx => ⟨by omega, by omega, by omega, fun x1 hx1 => ?_⟩⟩, fun hge => ?_⟩
  · obtain rfl : x = x1 := Option.some.inj (hx.symm.trans hx1)
    obtain ⟨l1, l2⟩ := lab x hx
    have hz : ((k + 1 : Nat) : Int) = (k : Int) + 1 := by omega
    refine ⟨fun c => ⟨by omega, by omega, by omega, fun x2 hx2 => ?_⟩, fun c => ?_⟩
    · obtain rfl : x = x2 := Option.some.inj (hx.symm.trans hx2)
      refine ⟨by omega, by omega, by omega, fun p hp => ?_⟩
      have hp1 := (hok.at_ p (List.mem_of_getElem? hp)).1
      have ht : L.fix x = if p = -1 ∨ p ≥ L.items.length then none else some { x.i with b := p } := by
        rw [Lab.fix, if_pos c, Lab.target, getD_some hp]
        simp only
        split <;> rfl
      refine ⟨fun c2 => ⟨fun c3 => ?_, fun c3 => ⟨by omega, by omega, by omega, ?_⟩⟩, fun c2 => ?_⟩
      · rw [if_pos (.inr c3)] at ht
        subst hQ
        rw [bad x hx ht]
        exact .to (r2 := .tup [.isl [], .isl [], .int .i64 12]) (h2 := RefH so sc sl sb sp L) ⟨rfl, rfl⟩ (.turn id ⟨.tup ⟨.nilI, .nilI, .refl _, trivial⟩, trivial⟩ (.at 2 rfl rfl (.refl _) (.at 3 rfl rfl (.refl _) (.at 4 rfl rfl (.refl _) (.at 5 rfl rfl (.refl _) (.at 6 rfl rfl (.refl _) trivial))))))
      · rw [if_neg (by omega)] at ht
        refine ih _ (k + 1, ys ++ [{ x.i with b := p }], m + 1, m + 1 + 1) ⟨by simp only; omega, fixs x _ hx ht, by simp [hl]⟩ (by simp only; omega) ?_
        have hm : (ys ++ [{ x.i with b := p }]).map Ins.row = ys.map Ins.row ++ [Ins.row { x.i with b := p }] := by simp
        simp only [hz, hm]
        simp -implicitDefEqProofs only [go_sem, Nat.reduceEqDiff, Nat.reduceAdd, Nat.reduceSub, Nat.reduceMul, Nat.reduceLeDiff, Nat.reduceLT, Nat.reduceBEq, Int.reduceToNat, Int.reduceLE, Int.reduceLT, Int.reduceEq, Int.reduceNe, Int.reduceAdd, Int.reduceSub, Int.reduceNeg, Int.toNat_natCast, Int.cast_ofNat_Int, Int.natCast_zero, Int.natCast_one, reduceCtorEq, reduceIte, Nat.lt_irrefl, and_self, not_false_eq_true, not_true_eq_false, RefH, rO, rC, rL, rB, rP, Ins.v, Ins.row, lineR, codeR, labR, zrow, rFC, rFL]
      · rw [if_pos (.inl (by omega))] at ht
        subst hQ
        rw [bad x hx ht]
        exact .to (r2 := .tup [.isl [], .isl [], .int .i64 12]) (h2 := RefH so sc sl sb sp L) ⟨rfl, rfl⟩ (.turn id ⟨.tup ⟨.nilI, .nilI, .refl _, trivial⟩, trivial⟩ (.at 2 rfl rfl (.refl _) (.at 3 rfl rfl (.refl _) (.at 4 rfl rfl (.refl _) (.at 5 rfl rfl (.refl _) (.at 6 rfl rfl (.refl _) trivial))))))
    · have ht : L.fix x = some x.i := by rw [Lab.fix, if_neg c]
      refine ⟨by omega, by omega, by omega, ?_⟩
      refine ih _ (k + 1, ys ++ [x.i], m + 1, m + 1 + 1) ⟨by simp only; omega, fixs x _ hx ht, by simp [hl]⟩ (by simp only; omega) ?_
      have hm : (ys ++ [x.i]).map Ins.row = ys.map Ins.row ++ [x.i.row] := by simp
      simp only [hz, hm]
      simp -implicitDefEqProofs only [go_sem, Nat.reduceEqDiff, Nat.reduceAdd, Nat.reduceSub, Nat.reduceMul, Nat.reduceLeDiff, Nat.reduceLT, Nat.reduceBEq, Int.reduceToNat, Int.reduceLE, Int.reduceLT, Int.reduceEq, Int.reduceNe, Int.reduceAdd, Int.reduceSub, Int.reduceNeg, Int.toNat_natCast, Int.cast_ofNat_Int, Int.natCast_zero, Int.natCast_one, reduceCtorEq, reduceIte, Nat.lt_irrefl, and_self, not_false_eq_true, not_true_eq_false, RefH, rO, rC, rL, rB, rP, Ins.v, Ins.row, lineR, codeR, labR, zrow, rFC, rFL]
  · have : k = L.items.length := by omega
    subst this
    rw [List.take_length] at hy
    have hfin : L.finish = some ys := hy
    subst hQ
    refine ⟨fun r hr => by obtain ⟨y, _, rfl⟩ := List.mem_map.1 hr; rfl, by omega, ?_⟩
    refine .to (r2 := finV L) (h2 := RefH so sc sl sb sp L) (n2 := m + 1 + 1) ⟨rfl, rfl⟩ ?_
    rw [finV, hfin]
    refine .trans (.freeze (b := rFC) (st := st) (sz := 5) (rs := ys.map Ins.row) (sl' := [(0, .tup [.isl (ys.map Ins.row), .sl rFL (m + 1) 0 L.items.length, .int .i64 0])]) (h' := (rFL, m + 1, .rows 1 (L.items.map lineR)) :: RefH so sc sl sb sp L) (by simp) ?_ ?_)
      (.freeze (b := rFL) (st := m + 1) (sz := 1) (rs := L.items.map lineR) List.mem_cons_self ?_ ?_)
    · exact ⟨.tup ⟨.all (by simpa using hl.symm), .of (.refl _), .of (.refl _), trivial⟩, trivial⟩
    · exact .at 0 rfl (by decide) (.of (.refl _)) (.at 2 rfl (by decide) (.of (.refl _)) (.at 3 rfl (by decide) (.of (.refl _)) (.at 4 rfl (by decide) (.of (.refl _)) (.at 5 rfl (by decide) (.of (.refl _)) (.at 6 rfl (by decide) (.of (.refl _)) trivial)))))
    · exact ⟨.tup ⟨.of (.refl _), .all (by simp), .of (.refl _), trivial⟩, trivial⟩
    · exact .at 1 rfl (by decide) (.of (.refl _)) (.at 2 rfl (by decide) (.of (.refl _)) (.at 3 rfl (by decide) (.of (.refl _)) (.at 4 rfl (by decide) (.of (.refl _)) (.at 5 rfl (by decide) (.of (.refl _)) trivial))))
end Go.Proofs.YtlckjdhammcpaaaDoor
