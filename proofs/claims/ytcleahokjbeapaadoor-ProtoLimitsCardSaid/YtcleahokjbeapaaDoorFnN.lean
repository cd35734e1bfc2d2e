/-
  The number of functions within a function, and of their instructions. No condition.
-/
import Derived.Test.YtcleahokjbeapaaDoorFnE
set_option linter.unusedVariables false
set_option linter.unusedSimpArgs false
set_option maxRecDepth 100000
set_option maxHeartbeats 0
namespace Go.Proofs.YtcleahokjbeapaaDoor
open Go.Abs
attribute [local irreducible] CallS Run RndS

theorem count_pure (p : Fn) (hp : p.bd) (hc : p.each.length ≤ 1000000) : Pure Tryd.prog 16 [.agg p.row] (.int .i64 p.each.length) := by
  obtain ⟨h1, h2⟩ := fn_row11 p
  have hec := fun n => each_call p n
  have he1 := fun nm st b sb J X hR h n hg hJ => each1_call (nm := nm) (st := st) (b := b) (sb := sb) (J := J) (X := X) p hp hR h n hg hJ
  generalize hpr : p.row = pr at *
  refine Pure.of 0 (CallS.enter proto_Count_ok (Nat.le_of_ble_eq_true rfl) (Run.go 100 ?_))
  simp -implicitDefEqProofs only [go_sem, initSl, h1, h2]
  refine CallS.at [] [0, 1] (hec 2) rfl rfl ?_
  rintro r h' n' hn ⟨rfl, rfl, rfl⟩
  simp -implicitDefEqProofs only [go_sem]
  refine ⟨by kernel_rfl, ?_⟩
  generalize hSL : [(5, V.fn 23 [V.ptr (14 * 10000 + 1) 2 0 0]), (4, .agg pr), (3, .ptr (16 * 10000 + 3) 1 0 0), (2, .int .i64 0), (1, .ptr (16 * 10000 + 1) 0 0 0), (0, .agg pr)] = SL
  refine CallS.pre (xs' := [.yld (16 * 10000 + 9006) 3, .ptr (14 * 10000 + 1) 2 0 0]) (h' := [((16 * 10000 + 9006), 3, .loop 10 SL [6] (LoopIs Tryd.prog 10 proto_Count_g0a proto_Count_g0b) .ready none), ((16 * 10000 + 3), 1, .rows 1 [[.int .i64 0]]), ((14 * 10000 + 1), 2, .rows 11 [pr]), ((16 * 10000 + 1), 0, .rows 11 [pr])]) (n' := 4)
    ?_ rfl ?_
  · exact .turn id ⟨.refl _, .refl _, trivial⟩ (.at 0 rfl rfl (.refl _) (.at 2 rfl rfl (.refl _) (.at 1 rfl rfl (.refl _) (.at 3 rfl rfl (.refl _) trivial))))
  refine (he1 (16 * 10000 + 9006) 3 (14 * 10000 + 1) 2 (fun pre h n => h = [((16 * 10000 + 9006), 3, .loop 10 SL [6] (LoopIs Tryd.prog 10 proto_Count_g0a proto_Count_g0b) .ready none), ((16 * 10000 + 3), 1, .rows 1 [[.int .i64 pre.length]]), ((14 * 10000 + 1), 2, .rows 11 [pr]), ((16 * 10000 + 1), 0, .rows 11 [pr])])
    (fun _ _ _ => False) ⟨?_, fun _ _ _ _ _ h => h, ?_, fun _ _ _ h => h.elim⟩ _ 4 (by simp -implicitDefEqProofs only [go_sem]) rfl).mono ?_
  · rintro pre q rest h n hw rfl
    have hlen : pre.length < p.each.length := by rw [hw]; simp
    refine RndS.enterU proto_Count_g0a_eq proto_Count_g0b_eq rfl rfl fun Q hQ => Run.go 100 ?_
    subst hSL
    simp -implicitDefEqProofs only [go_sem]
    refine ⟨by omega, ?_⟩
    subst hQ
    exact .is (.inl ⟨rfl, by simp⟩)
  · rintro pre h n rfl
    exact ⟨.of rfl, .of rfl⟩
  · rintro r h' n' (rfl | ⟨_, _, _, _, h⟩)
    · subst hSL
      simp -implicitDefEqProofs only [go_sem]
    · exact h.elim

def sizeL (l : List Fn) : Nat := (l.map fun q => q.code.length).sum
theorem sizeL_snoc (l : List Fn) (q : Fn) : sizeL (l ++ [q]) = sizeL l + q.code.length := by simp [sizeL]
theorem sizeL_le : ∀ {l : List Fn}, (∀ q ∈ l, q.Le) → sizeL l ≤ l.length * 1000000
  | [], _ => by simp [sizeL]
  | q :: r, h => by
    have h1 := (h q List.mem_cons_self).code
    have h2 := sizeL_le fun x hx => h x (List.mem_cons_of_mem _ hx)
    simp only [sizeL, List.map_cons, List.sum_cons, List.length_cons] at h2 ⊢
    omega

theorem size_pure (p : Fn) (hp : p.bd) (hc : p.each.length ≤ 1000000) : Pure Tryd.prog 17 [.agg p.row] (.int .i64 (sizeL p.each)) := by
  obtain ⟨h1, h2⟩ := fn_row11 p
  have hec := fun n => each_call p n
  have he1 := fun nm st b sb J X hR h n hg hJ => each1_call (nm := nm) (st := st) (b := b) (sb := sb) (J := J) (X := X) p hp hR h n hg hJ
  generalize hpr : p.row = pr at *
  refine Pure.of 0 (CallS.enter proto_Size_ok (Nat.le_of_ble_eq_true rfl) (Run.go 100 ?_))
  simp -implicitDefEqProofs only [go_sem, initSl, h1, h2]
  refine CallS.at [] [0, 1] (hec 2) rfl rfl ?_
  rintro r h' n' hn ⟨rfl, rfl, rfl⟩
  simp -implicitDefEqProofs only [go_sem]
  refine ⟨by kernel_rfl, ?_⟩
  generalize hSL : [(6, V.fn 23 [V.ptr (14 * 10000 + 1) 2 0 0]), (5, .agg pr), (3, .ptr (17 * 10000 + 3) 1 0 0), (2, .int .i64 0), (1, .ptr (17 * 10000 + 1) 0 0 0), (0, .agg pr)] = SL
  refine CallS.pre (xs' := [.yld (17 * 10000 + 9007) 3, .ptr (14 * 10000 + 1) 2 0 0]) (h' := [((17 * 10000 + 9007), 3, .loop 14 SL [7] (LoopIs Tryd.prog 14 proto_Size_g0a proto_Size_g0b) .ready none), ((17 * 10000 + 3), 1, .rows 1 [[.int .i64 0]]), ((14 * 10000 + 1), 2, .rows 11 [pr]), ((17 * 10000 + 1), 0, .rows 11 [pr])]) (n' := 4)
    (.turn id ⟨.refl _, .refl _, trivial⟩ (.at 0 rfl rfl (.refl _) (.at 2 rfl rfl (.refl _) (.at 1 rfl rfl (.refl _) (.at 3 rfl rfl (.refl _) trivial))))) rfl ?_
  refine (he1 (17 * 10000 + 9007) 3 (14 * 10000 + 1) 2 (fun pre h n => h = [((17 * 10000 + 9007), 3, .loop 14 SL [7] (LoopIs Tryd.prog 14 proto_Size_g0a proto_Size_g0b) .ready none), ((17 * 10000 + 3), 1, .rows 1 [[.int .i64 (sizeL pre)]]), ((14 * 10000 + 1), 2, .rows 11 [pr]), ((17 * 10000 + 1), 0, .rows 11 [pr])])
    (fun _ _ _ => False) ⟨?_, fun _ _ _ _ _ h => h, ?_, fun _ _ _ h => h.elim⟩ _ 4 (by simp -implicitDefEqProofs only [go_sem]) rfl).mono ?_
  · rintro pre q rest h n hw rfl
    have hmem : ∀ x ∈ pre ++ [q], x ∈ p.each := fun x hx => by rw [hw]; simp at hx ⊢; rcases hx with h | h <;> simp [h]
    have hlen : (pre ++ [q]).length ≤ p.each.length := by rw [hw]; simp
    have hsz := sizeL_le fun x hx => hp x (hmem x hx)
    have hsn := sizeL_snoc pre q
    obtain ⟨g1, g2⟩ := fn_row11 q
    have g5 : q.row[5]? = some (.isl (q.code.map Ins.row)) := by rw [q.row_eq]; rfl
    have hcl : (q.code.map Ins.row).length = q.code.length := List.length_map ..
    generalize q.row = qr at *
    generalize q.code.map Ins.row = es at *
    refine RndS.enterU proto_Size_g0a_eq proto_Size_g0b_eq rfl rfl fun Q hQ => Run.go 100 ?_
    subst hSL
    simp -implicitDefEqProofs only [go_sem, g1, g2, g5, hcl]
    refine ⟨by omega, ?_⟩
    subst hQ
    exact .to (.inl ⟨rfl, rfl⟩) (.trans (.sub (h2 := [((17 * 10000 + 9007), 3, .loop 14 [(6, V.fn 23 [V.ptr (14 * 10000 + 1) 2 0 0]), (5, .agg pr), (3, .ptr (17 * 10000 + 3) 1 0 0), (2, .int .i64 0), (1, .ptr (17 * 10000 + 1) 0 0 0), (0, .agg pr)] [7] (LoopIs Tryd.prog 14 proto_Size_g0a proto_Size_g0b) .ready none), ((17 * 10000 + 3), 1, .rows 1 [[.int .i64 (sizeL pre + q.code.length)]]), ((14 * 10000 + 1), 2, .rows 11 [pr]), ((17 * 10000 + 1), 0, .rows 11 [pr])]) (by simp -implicitDefEqProofs only [go_sem])) (.turn id ⟨.refl _, trivial⟩ (.at 0 rfl rfl (.refl _) (.at 1 rfl rfl (.of_eq (by rw [hsn]; rfl)) (.at 2 rfl rfl (.refl _) (.at 3 rfl rfl (.refl _) trivial))))))
  · rintro pre h n rfl
    exact ⟨.of rfl, .of rfl⟩
  · rintro r h' n' (rfl | ⟨_, _, _, _, h⟩)
    · subst hSL
      simp -implicitDefEqProofs only [go_sem]
    · exact h.elim
end Go.Proofs.YtcleahokjbeapaaDoor
