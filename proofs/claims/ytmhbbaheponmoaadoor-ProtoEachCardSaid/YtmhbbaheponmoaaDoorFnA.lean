/-
  What the law's own 'all' returns. No condition.
-/
import Derived.Test.YtmhbbaheponmoaaDoorFnN
set_option linter.unusedVariables false
set_option linter.unusedSimpArgs false
set_option maxRecDepth 100000
set_option maxHeartbeats 0
namespace Go.Proofs.YtmhbbaheponmoaaDoor
open Go.Abs
attribute [local irreducible] CallS Run RndS

theorem all_pure (p : Fn) (hp : p.bd) (hc : p.each.length ≤ 50) : Pure Tryd.prog 12 [.agg p.row] (.isl (p.each.map Fn.row)) := by
  obtain ⟨h1, h2⟩ := fn_row11 p
  have hec := fun n => each_call p n
  have he1 := fun nm st b sb J X hR h n hg hJ => each1_call (nm := nm) (st := st) (b := b) (sb := sb) (J := J) (X := X) p hp hR h n hg hJ
  have hfin := fun d h => frz_rows (d := d) (h := h) fun φ => Fn.rows_sub φ p.each
  have hpm : (p.each.map Fn.row).length = p.each.length := List.length_map ..
  generalize hpr : p.row = pr at *
  refine Pure.of 1 (CallS.enter scriptinglaw33_all_ok (Nat.le_of_ble_eq_true rfl) (Run.go 100 ?_))
  simp -implicitDefEqProofs only [go_sem, Nat.reduceEqDiff, Nat.reduceAdd, Nat.reduceSub, Nat.reduceMul, Nat.reduceLeDiff, Nat.reduceLT, Nat.reduceBEq, Int.reduceToNat, Int.reduceLE, Int.reduceLT, Int.reduceEq, Int.reduceNe, Int.reduceAdd, Int.reduceSub, Int.reduceNeg, Int.toNat_natCast, Int.cast_ofNat_Int, Int.natCast_zero, Int.natCast_one, reduceCtorEq, reduceIte, Nat.lt_irrefl, and_self, not_false_eq_true, not_true_eq_false, initSl, h1, h2]
  refine CallS.at [] [0, 1] (hec 2) rfl rfl ?_
  rintro r h' n' hn ⟨rfl, rfl, rfl⟩
  simp -implicitDefEqProofs only [go_sem, Nat.reduceEqDiff, Nat.reduceAdd, Nat.reduceSub, Nat.reduceMul, Nat.reduceLeDiff, Nat.reduceLT, Nat.reduceBEq, Int.reduceToNat, Int.reduceLE, Int.reduceLT, Int.reduceEq, Int.reduceNe, Int.reduceAdd, Int.reduceSub, Int.reduceNeg, Int.toNat_natCast, Int.cast_ofNat_Int, Int.natCast_zero, Int.natCast_one, reduceCtorEq, reduceIte, Nat.lt_irrefl, and_self, not_false_eq_true, not_true_eq_false]
  refine ⟨by kernel_rfl, ?_⟩
  generalize hSL : [(11, V.fn 45 [V.ptr (27 * 10000 + 1) 2 0 0]), (9, .bool false), (8, .fn 45 [.ptr (27 * 10000 + 1) 2 0 0]), (7, .fn 45 [.ptr (27 * 10000 + 1) 2 0 0]), (6, .agg pr), (4, .fn 45 [.ptr (27 * 10000 + 1) 2 0 0]), (3, .ptr (12 * 10000 + 3) 1 0 0), (2, .nils), (1, .ptr (12 * 10000 + 1) 0 0 0), (0, .agg pr)] = SL
  refine CallS.pre (xs' := [.yld 129012 3, .ptr (27 * 10000 + 1) 2 0 0]) (h' := [(129012, 3, .loop 23 SL [12] (LoopIs Tryd.prog 23 scriptinglaw33_all_g0a scriptinglaw33_all_g0b) .ready none), ((12 * 10000 + 17), 4, .rows 11 ([])), ((12 * 10000 + 3), 1, .rows 1 [[.sl (12 * 10000 + 17) 4 0 0]]), ((27 * 10000 + 1), 2, .rows 11 [pr]), ((12 * 10000 + 1), 0, .rows 11 [pr])]) (n' := 5)
    (.trans (.fresh (12 * 10000 + 17) 11 _ _ _) (.turn id ⟨.refl _, .refl _, trivial⟩ (.at 1 rfl rfl (.refl _) (.at 0 rfl rfl (.refl _) (.at 3 rfl rfl (.row ⟨.nils, trivial⟩) (.at 2 rfl rfl (.refl _) (.at 4 rfl rfl (.refl _) trivial))))))) rfl ?_
  refine (he1 129012 3 (27 * 10000 + 1) 2 (fun pre h n => ∃ so, so < n ∧ h = [(129012, 3, .loop 23 SL [12] (LoopIs Tryd.prog 23 scriptinglaw33_all_g0a scriptinglaw33_all_g0b) .ready none), ((12 * 10000 + 17), so, .rows 11 (pre.map Fn.row)), ((12 * 10000 + 3), 1, .rows 1 [[.sl (12 * 10000 + 17) so 0 pre.length]]), ((27 * 10000 + 1), 2, .rows 11 [pr]), ((12 * 10000 + 1), 0, .rows 11 [pr])])
    (fun _ _ _ => False) ⟨?_, fun _ _ _ _ hn ⟨so, h1, h2⟩ => ⟨so, Nat.lt_of_lt_of_le h1 hn, h2⟩, ?_, fun _ _ _ h => h.elim⟩ _ 5 (by simp -implicitDefEqProofs only [go_sem, Nat.reduceEqDiff, Nat.reduceAdd, Nat.reduceSub, Nat.reduceMul, Nat.reduceLeDiff, Nat.reduceLT, Nat.reduceBEq, Int.reduceToNat, Int.reduceLE, Int.reduceLT, Int.reduceEq, Int.reduceNe, Int.reduceAdd, Int.reduceSub, Int.reduceNeg, Int.toNat_natCast, Int.cast_ofNat_Int, Int.natCast_zero, Int.natCast_one, reduceCtorEq, reduceIte, Nat.lt_irrefl, and_self, not_false_eq_true, not_true_eq_false]) ⟨4, by omega, rfl⟩).mono ?_
  · rintro pre q rest h n hw ⟨so, hso, rfl⟩
    have hlen : pre.length + 1 ≤ p.each.length := by rw [hw]; simp
    have hpl : (pre.map Fn.row).length = pre.length := List.length_map ..
    have hap : (pre.length + 1 ≤ 137438953472) = True := eq_true (by omega)
    have hptk : (pre.map Fn.row).take pre.length = pre.map Fn.row := List.take_of_length_le (by omega)
    have hnew : (pre ++ [q]).map Fn.row = pre.map Fn.row ++ [q.row] := by simp
    have hnl : (pre ++ [q]).length = pre.length + 1 := by simp
    obtain ⟨g1, g2⟩ := fn_row11 q
    generalize q.row = qr at *
    generalize pre.map Fn.row = R at *
    rw [hnew, hnl]
    have hat : ∀ (x : List V), (R ++ [x])[pre.length]? = some x := fun x => by rw [List.getElem?_append_right (by omega), hpl]; simp
    have hset : ∀ (x : List V), (R ++ [x]).set pre.length qr = R ++ [qr] := fun x => by rw [List.set_append_right _ _ (by omega), hpl]; simp
    have q0 : ((0 : Int) ≤ (pre.length : Int)) = True := eq_true (by omega)
    have q1 : ((pre.length : Int) < ((pre.length + 1 : Nat) : Int)) = True := eq_true (by omega)
    have q2 : pre.length < pre.length + 1 := by omega
    have q3 : ((50 : Int) < ((pre.length + 1 : Nat) : Int)) = False := eq_false (by omega)
    refine RndS.enterU scriptinglaw33_all_g0a_eq scriptinglaw33_all_g0b_eq rfl rfl fun Q hQ => Run.go 100 ?_
    subst hSL
    simp -implicitDefEqProofs only [go_sem, Nat.reduceEqDiff, Nat.reduceAdd, Nat.reduceSub, Nat.reduceMul, Nat.reduceLeDiff, Nat.reduceLT, Nat.reduceBEq, Int.reduceToNat, Int.reduceLE, Int.reduceLT, Int.reduceEq, Int.reduceNe, Int.reduceAdd, Int.reduceSub, Int.reduceNeg, Int.toNat_natCast, Int.cast_ofNat_Int, Int.natCast_zero, Int.natCast_one, reduceCtorEq, reduceIte, Nat.lt_irrefl, and_self, not_false_eq_true, not_true_eq_false, g1, g2, hpl, hap, hptk, q0, q1, q2, q3, hat, hset, Option.some.injEq, forall_eq', List.append_nil]
    subst hQ
    exact ⟨.to (n2 := n + 1 + 1) (.inl ⟨rfl, n + 1, by omega, rfl⟩) (.turn id ⟨.refl _, trivial⟩ (.at 0 rfl rfl (.refl _) (.at 2 rfl rfl (.refl _) (.at 1 rfl rfl (.refl _) (.at 4 rfl rfl (.refl _) (.at 5 rfl rfl (.refl _) trivial)))))), .to (n2 := n + 1 + 1) (.inl ⟨rfl, n + 1, by omega, rfl⟩) (.turn id ⟨.refl _, trivial⟩ (.at 0 rfl rfl (.refl _) (.at 1 rfl rfl (.refl _) (.at 2 rfl rfl (.refl _) (.at 4 rfl rfl (.refl _) (.at 5 rfl rfl (.refl _) trivial))))))⟩
  · rintro pre h n ⟨so, hso, rfl⟩
    exact ⟨.of rfl, .of rfl⟩
  · rintro r h' n' (⟨so, hso, rfl⟩ | ⟨_, _, _, _, h⟩)
    · subst hSL
      have e1 : (p.each.map Fn.row).take p.each.length = p.each.map Fn.row := List.take_of_length_le (by omega)
      generalize p.each.map Fn.row = es at *
      simp -implicitDefEqProofs only [go_sem, Nat.reduceEqDiff, Nat.reduceAdd, Nat.reduceSub, Nat.reduceMul, Nat.reduceLeDiff, Nat.reduceLT, Nat.reduceBEq, Int.reduceToNat, Int.reduceLE, Int.reduceLT, Int.reduceEq, Int.reduceNe, Int.reduceAdd, Int.reduceSub, Int.reduceNeg, Int.toNat_natCast, Int.cast_ofNat_Int, Int.natCast_zero, Int.natCast_one, reduceCtorEq, reduceIte, Nat.lt_irrefl, and_self, not_false_eq_true, not_true_eq_false, hpm, e1]
      exact hfin _ _
    · exact h.elim
end Go.Proofs.YtmhbbaheponmoaaDoor
