/-
  proto.Check out of what its parts answer. No condition.
-/
import Derived.Test.YtmpkdkadnhindaaDoorFnN
set_option linter.unusedVariables false
set_option linter.unusedSimpArgs false
set_option maxRecDepth 100000
set_option maxHeartbeats 0
namespace Go.Proofs.YtmpkdkadnhindaaDoor
open Go.Abs
attribute [local irreducible] CallS Run RndS

def firstNZ : List Int → Int
  | [] => 0
  | x :: r => if x = 0 then firstNZ r else x
theorem firstNZ_zero : ∀ {l : List Int}, (∀ x ∈ l, x = 0) → firstNZ l = 0
  | [], _ => rfl
  | x :: r, h => by rw [firstNZ, if_pos (h x List.mem_cons_self)]; exact firstNZ_zero fun y hy => h y (List.mem_cons_of_mem _ hy)
theorem firstNZ_at : ∀ {l : List Int} {x : Int} {r : List Int}, (∀ y ∈ l, y = 0) → x ≠ 0 → firstNZ (l ++ x :: r) = x
  | [], x, r, _, hx => by simp [firstNZ, hx]
  | y :: l, x, r, h, hx => by rw [List.cons_append, firstNZ, if_pos (h y List.mem_cons_self)]; exact firstNZ_at (fun z hz => h z (List.mem_cons_of_mem _ hz)) hx

/-- The error of a function of a depth, from those of the functions within. -/
def chkAll (d : Nat) (l : List Int) : Int := if 64 < d then 3 else firstNZ l

theorem check_of (p : Fn) (hp : p.bd) (d : Nat) (hd : Pure Tryd.prog 15 [.agg p.row] (.int .i64 d)) (e : Fn → Int)
    (hs : ∀ q ∈ p.each, Pure Tryd.prog 17 [.agg q.row] (.int .i64 (e q))) : Pure Tryd.prog 8 [.agg p.row] (.int .i64 (chkAll d (p.each.map e))) := by
  obtain ⟨h1, h2⟩ := fn_row11 p
  have hps := Fn.row_sub lost p
  have hec := fun n => each_call p n
  have he1 := fun nm st b sb J X hR h n hg hJ => each1_call (nm := nm) (st := st) (b := b) (sb := sb) (J := J) (X := X) p hp hR h n hg hJ
  generalize hpr : p.row = pr at *
  refine Pure.of 0 (CallS.enter proto_Check_ok (Nat.le_of_ble_eq_true rfl) (Run.go 100 ?_))
  simp -implicitDefEqProofs only [go_sem, initSl, h1, h2]
  refine CallS.pureF hd (by simp -implicitDefEqProofs only [go_sem, hps]) ?_
  by_cases hb : 64 < d
  · have z0 : ((64 : Int) < (d : Int)) = True := eq_true (by omega)
    have z1 : chkAll d (p.each.map e) = 3 := if_pos hb
    simp -implicitDefEqProofs only [go_sem, z0, z1]
  have z0 : ((64 : Int) < (d : Int)) = False := eq_false (by omega)
  have z1 : chkAll d (p.each.map e) = firstNZ (p.each.map e) := if_neg hb
  rw [z1]
  simp -implicitDefEqProofs only [go_sem, z0, h1, h2]
  refine CallS.at [] [0, 1] (hec 2) rfl rfl ?_
  rintro r h' n' hn ⟨rfl, rfl, rfl⟩
  simp -implicitDefEqProofs only [go_sem]
  refine ⟨by kernel_rfl, ?_⟩
  generalize hSL : [(9, V.fn 27 [V.ptr (16 * 10000 + 1) 2 0 0]), (8, .agg pr), (7, .bool false), (6, .int .i64 d), (5, .agg pr), (2, .ptr (8 * 10000 + 2) 1 0 0), (1, .ptr (8 * 10000 + 1) 0 0 0), (0, .agg pr)] = SL
  refine CallS.pre (xs' := [.yld (8 * 10000 + 9010) 3, .ptr (16 * 10000 + 1) 2 0 0]) (h' := [((8 * 10000 + 9010), 3, .loop 16 SL [10] (LoopIs Tryd.prog 16 proto_Check_g0a proto_Check_g0b) .ready none), ((8 * 10000 + 2), 1, .rows 1 [[.int .i64 0]]), ((16 * 10000 + 1), 2, .rows 11 [pr]), ((8 * 10000 + 1), 0, .rows 11 [pr])]) (n' := 4)
    (.turn id ⟨.refl _, .refl _, trivial⟩ (.at 0 rfl rfl (.refl _) (.at 2 rfl rfl (.refl _) (.at 1 rfl rfl (.refl _) (.at 3 rfl rfl (.refl _) trivial))))) rfl ?_
  refine (he1 (8 * 10000 + 9010) 3 (16 * 10000 + 1) 2 (fun pre h n => (∀ x ∈ pre.map e, x = 0) ∧ h = [((8 * 10000 + 9010), 3, .loop 16 SL [10] (LoopIs Tryd.prog 16 proto_Check_g0a proto_Check_g0b) .ready none), ((8 * 10000 + 2), 1, .rows 1 [[.int .i64 0]]), ((16 * 10000 + 1), 2, .rows 11 [pr]), ((8 * 10000 + 1), 0, .rows 11 [pr])])
    (fun pre h n => ∃ pre' q, pre = pre' ++ [q] ∧ (∀ x ∈ pre'.map e, x = 0) ∧ e q ≠ 0 ∧ h = [((8 * 10000 + 9010), 3, .loop 16 SL [10] (LoopIs Tryd.prog 16 proto_Check_g0a proto_Check_g0b) .done (some .ret)), ((8 * 10000 + 2), 1, .rows 1 [[.int .i64 (e q)]]), ((16 * 10000 + 1), 2, .rows 11 [pr]), ((8 * 10000 + 1), 0, .rows 11 [pr])]) ⟨?_, fun _ _ _ _ _ h => h, ?_, ?_⟩ _ 4 (by simp -implicitDefEqProofs only [go_sem]) ⟨by simp, rfl⟩).mono ?_
  · rintro pre q rest h n hw ⟨hz, rfl⟩
    have hqm : q ∈ p.each := by rw [hw]; simp
    have hq := hs q hqm
    obtain ⟨g1, g2⟩ := fn_row11 q
    have hqs := Fn.row_sub lost q
    generalize q.row = qr at *
    refine RndS.enterU proto_Check_g0a_eq proto_Check_g0b_eq rfl rfl fun Q hQ => Run.go 100 ?_
    subst hSL
    simp -implicitDefEqProofs only [go_sem, g1, g2]
    refine CallS.pureF hq (by simp -implicitDefEqProofs only [go_sem, hqs]) ?_
    by_cases hq0 : e q = 0
    · simp -implicitDefEqProofs only [go_sem, hq0]
      subst hQ
      refine .to (n2 := n + 1) (.inl ⟨rfl, ?_, rfl⟩) (.turn id ⟨.refl _, trivial⟩ (.at 0 rfl rfl (.refl _) (.at 2 rfl rfl (.refl _) (.at 3 rfl rfl (.refl _) (.at 4 rfl rfl (.refl _) trivial)))))
      intro x hx
      simp only [List.map_append, List.mem_append, List.map_cons, List.map_nil, List.mem_singleton] at hx
      rcases hx with hx | rfl
      · exact hz x hx
      · exact hq0
    · simp -implicitDefEqProofs only [go_sem, hq0]
      subst hQ
      refine .to (n2 := n + 1) (.inr ⟨rfl, pre, q, rfl, hz, hq0, rfl⟩) (.turn id ⟨.refl _, trivial⟩ (.at 0 rfl rfl (.refl _) (.at 1 rfl rfl (.refl _) (.at 3 rfl rfl (.refl _) (.at 4 rfl rfl (.refl _) trivial)))))
  · rintro pre h n ⟨_, rfl⟩
    exact ⟨.of rfl, .of rfl⟩
  · rintro pre h n ⟨_, _, _, _, _, rfl⟩
    exact ⟨.of rfl, .of rfl⟩
  · rintro r h' n' (⟨hz, rfl⟩ | ⟨pre, q, rest, hw, pre', q', hpq, hz, hq0, rfl⟩)
    · subst hSL
      have := firstNZ_zero hz
      simp -implicitDefEqProofs only [go_sem, this]
    · subst hSL
      obtain ⟨rfl, hqq⟩ := List.append_inj' hpq rfl
      obtain rfl : q = q' := by simpa using hqq
      have : firstNZ (p.each.map e) = e q := by rw [hw, List.map_append, List.map_cons]; exact firstNZ_at hz hq0
      simp -implicitDefEqProofs only [go_sem, this]
end Go.Proofs.YtmpkdkadnhindaaDoor
