/-
  The depth of a function; proto.Check. No condition.
-/
import Derived.Test.YtkjcokmbjdafnaaDoorFnCk
import Derived.Test.YtkjcokmbjdafnaaDoorFnM8
set_option linter.unusedVariables false
set_option linter.unusedSimpArgs false
set_option maxRecDepth 100000
set_option maxHeartbeats 0
namespace Go.Proofs.YtkjcokmbjdafnaaDoor
open Go.Abs
attribute [local irreducible] CallS Run RndS
theorem Fn.depths_append : ∀ (l : List Fn) (q : Fn), Fn.depths (l ++ [q]) = max (Fn.depths l) q.depth
  | [], q => by simp [Fn.depths]
  | p :: r, q => by rw [List.cons_append, Fn.depths, Fn.depths, Fn.depths_append r q, Nat.max_assoc]
theorem Fn.depths_mem : ∀ {l : List Fn} {q : Fn}, q ∈ l → q.depth ≤ Fn.depths l
  | [], q, h => by cases h
  | p :: r, q, h => by
    rw [Fn.depths]
    rcases List.mem_cons.1 h with rfl | h
    · exact Nat.le_max_left ..
    · exact Nat.le_trans (Fn.depths_mem h) (Nat.le_max_right ..)
theorem Fn.depths_take (l : List Fn) (k : Nat) : Fn.depths (l.take k) ≤ Fn.depths l := by
  induction l generalizing k with
  | nil => simp
  | cons a r ih =>
    cases k with
    | zero => simp [Fn.depths]
    | succ k => rw [List.take_succ_cons, Fn.depths, Fn.depths]; have := ih k; omega
theorem Fn.depth_each (p : Fn) : p.depth ≤ p.each.length := by
  induction p using Fn.ind with
  | h p ih =>
    rw [Fn.depth_eq, Fn.each_eq, List.length_cons]
    have : ∀ l : List Fn, (∀ q ∈ l, q.depth ≤ q.each.length) → Fn.depths l ≤ (Fn.eachs l).length := by
      intro l
      induction l with
      | nil => intro _; exact Nat.le_refl _
      | cons a r ihr =>
        intro h
        have h1 := h a List.mem_cons_self
        have h2 := ihr fun q hq => h q (List.mem_cons_of_mem _ hq)
        rw [Fn.depths, Fn.eachs, List.length_append]
        omega
    exact Nat.succ_le_succ (this _ ih)
theorem depth_pure (p : Fn) (hp : p.bd) (hd : p.depth ≤ 1000000) : Pure Tryd.prog 18 [.agg p.row] (.int .i64 p.depth) := by
  induction p using Fn.ind with
  | h p ih' =>
    have hde := Fn.depth_eq p
    have ih : ∀ q ∈ p.protos, Pure Tryd.prog 18 [.agg q.row] (.int .i64 q.depth) := fun q hq => ih' q hq (hp.child hq) (by have := Fn.depths_mem hq; omega)
    clear ih'
    obtain ⟨h1, h2⟩ := fn_row11 p
    have hqz := hp.self.protos
    have h8 : p.row[8]? = some (.isl (p.protos.map Fn.row)) := by rw [Fn.row_eq]; rfl
    have k2 : (p.protos.map Fn.row).length = p.protos.length := List.length_map ..
    have zq := eq_true (rowsz_of Fn.row 11 Fn.row_len p.protos)
    have rq : ∀ (k : Nat) x, p.protos[k]? = some x → (p.protos.map Fn.row)[k]? = some (Fn.row x) := fun k x hk => by rw [List.getElem?_map, hk]; rfl
    generalize p.protos.map Fn.row = rprotos at *
    generalize p.row = pr at *
    rw [hde] at hd ⊢
    refine Pure.of 0 (CallS.enter proto_depth_ok (Nat.le_of_ble_eq_true rfl) (Run.go 100 ?_))
    simp -implicitDefEqProofs only [go_sem, initSl, h1, h2, h8, k2]
    refine Run.keep [9, 8, 7, 3, 1] ?_
    refine Run.rounds (fun (x : Nat × Nat) => ⟨[(9, .int .i64 x.1), (8, .int .i64 p.protos.length), (7, .isl rprotos), (3, .int .i64 (Fn.depths (p.protos.take x.1))), (1, .ptr (18 * 10000 + 1) 0 0 0)], [((18 * 10000 + 1), 0, .rows 11 [pr])], x.2⟩) (fun x => x.1 ≤ p.protos.length) (fun x => p.protos.length - x.1) (0, 1) (by simp -implicitDefEqProofs only [go_sem, List.take_zero, Fn.depths]) (Nat.zero_le _) ?_
    rintro ⟨k, m⟩ hk ihl
    simp only at hk ihl ⊢
    refine Run.unf proto_depth_l0_eq (Run.go 100 ?_)
    by_cases hlt : k < p.protos.length
    · have q0 : ((k : Int) < (p.protos.length : Int)) = True := eq_true (by omega)
      have q1 : ((0 : Int) ≤ (k : Int)) = True := eq_true (by omega)
      obtain ⟨q, hx⟩ : ∃ x, p.protos[k]? = some x := ⟨p.protos[k], by simp [hlt]⟩
      have hxr := rq k q hx
      have hzk : ((k + 1 : Nat) : Int) = (k : Int) + 1 := by omega
      have hq := ih q (List.mem_of_getElem? hx)
      have hqs := Fn.row_sub lost q
      obtain ⟨g1, g2⟩ := fn_row11 q
      have ht : p.protos.take (k + 1) = p.protos.take k ++ [q] := by rw [List.take_add_one, hx]; rfl
      have hm : Fn.depths (p.protos.take (k + 1)) = max (Fn.depths (p.protos.take k)) q.depth := by rw [ht, Fn.depths_append]
      have hle := Fn.depths_take p.protos (k + 1)
      generalize hD : Fn.depths (p.protos.take (k + 1)) = D at *
      generalize Fn.depths (p.protos.take k) = d0 at *
      generalize q.row = qr at *
      simp -implicitDefEqProofs only [go_sem, q0, q1, k2, zq, g1, g2, hxr, hlt, Option.some.injEq, forall_eq']
      refine CallS.pureF hq (by simp -implicitDefEqProofs only [go_sem, hqs]) ?_
      have hmax : (if (q.depth : Int) > (d0 : Int) then (q.depth : Int) else (d0 : Int)) = (D : Int) := by split <;> omega
      simp -implicitDefEqProofs only [go_sem, hmax]
      refine ⟨by omega, ?_⟩
      exact ihl _ (k + 1, m + 1) (by simp only; omega) (by simp only; omega) (by simp -implicitDefEqProofs only [go_sem, hzk, hD])
    have e : k = p.protos.length := by omega
    subst e
    rw [List.take_length]
    have hze : ((Fn.depths p.protos + 1 : Nat) : Int) = (Fn.depths p.protos : Int) + 1 := by omega
    simp -implicitDefEqProofs only [go_sem, Int.lt_irrefl, hze]
    omega
def chkE (p : Fn) : Int := chkAll p.depth (p.each.map sglE)
theorem pcheck_pure (p : Fn) (hp : p.bd) (hd : p.depth ≤ 1000000) : Pure Tryd.prog 13 [.agg p.row] (.int .i64 (chkE p)) :=
  check_of p hp p.depth (depth_pure p hp hd) sglE fun q hq => single_pure q (hp.within hq)
end Go.Proofs.YtkjcokmbjdafnaaDoor
