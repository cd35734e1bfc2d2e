/-
  The error of a function without those within it. No condition.
-/
import Derived.Test.YtkjcokmbjdafnaaDoorFnM5
import Derived.Test.YtkjcokmbjdafnaaDoorFnM7
import Derived.Test.YtkjcokmbjdafnaaDoorFnCk
set_option linter.unusedVariables false
set_option linter.unusedSimpArgs false
set_option maxRecDepth 100000
set_option maxHeartbeats 0
namespace Go.Proofs.YtkjcokmbjdafnaaDoor
open Go.Abs
attribute [local irreducible] CallS Run RndS
def badU (regs : Int) (n : Nat) (u : Upv) : Bool := if u.loc then decide (regs ≤ u.idx) else decide ((n : Int) ≤ u.idx)
def badQ (p q : Fn) : Bool := q.ups.any (badU p.regs p.ups.length)
def sglE (p : Fn) : Int :=
  if limE p ≠ 0 then limE p else if formE p ≠ 0 then formE p
  else if firstNZ (p.code.map (instE p)) ≠ 0 then firstNZ (p.code.map (instE p))
  else if p.protos.any (badQ p) = true then 4 else 0
theorem takeMap_next {α : Type} {l : List α} {k : Nat} {x : α} {f : α → Int} (h : ∀ y ∈ l.take k, f y = 0) (hx : l[k]? = some x) (hf : f x = 0) : ∀ y ∈ l.take (k + 1), f y = 0 := by
  rw [List.take_add_one, hx]
  intro y hy
  rcases List.mem_append.1 hy with hy | hy
  · exact h y hy
  · obtain rfl : y = x := by simpa using hy
    exact hf
theorem firstNZ_take {α : Type} {l : List α} {k : Nat} {x : α} {f : α → Int} (h : ∀ y ∈ l.take k, f y = 0) (hx : l[k]? = some x) (hf : f x ≠ 0) : firstNZ (l.map f) = f x := by
  obtain ⟨hk, hkx⟩ := List.getElem?_eq_some_iff.1 hx
  have e : l = l.take k ++ x :: l.drop (k + 1) := by rw [← hkx, ← List.drop_eq_getElem_cons hk, List.take_append_drop]
  rw [e, List.map_append, List.map_cons]
  refine firstNZ_at (fun y hy => ?_) hf
  obtain ⟨w, hw, rfl⟩ := List.mem_map.1 hy
  exact h w hw
theorem single_pure (p : Fn) (hp : p.bd) : Pure Tryd.prog 20 [.agg p.row] (.int .i64 (sglE p)) := by
  obtain ⟨h1, h2⟩ := fn_row11 p
  have hps := Fn.row_sub lost p
  have hb := hp.self
  have hcz := hb.code
  have hqz := hb.protos
  have hli := limits_pure p hp
  have hfo := form_pure p hp
  have hin := inst_pure p hp
  have h4 : p.row[4]? = some (.int .i64 p.regs) := by rw [Fn.row_eq]; rfl
  have h5 : p.row[5]? = some (.isl (p.code.map Ins.row)) := by rw [Fn.row_eq]; rfl
  have h8 : p.row[8]? = some (.isl (p.protos.map Fn.row)) := by rw [Fn.row_eq]; rfl
  have h9 : p.row[9]? = some (.isl (p.ups.map Upv.row)) := by rw [Fn.row_eq]; rfl
  have k1 : (p.code.map Ins.row).length = p.code.length := List.length_map ..
  have k2 : (p.protos.map Fn.row).length = p.protos.length := List.length_map ..
  have k3 : (p.ups.map Upv.row).length = p.ups.length := List.length_map ..
  have zi := eq_true (rowsz_of Ins.row 5 (fun _ => rfl) p.code)
  have zq := eq_true (rowsz_of Fn.row 11 Fn.row_len p.protos)
  have ri : ∀ (k : Nat) x, p.code[k]? = some x → (p.code.map Ins.row)[k]? = some (Ins.row x) := fun k x hk => by rw [List.getElem?_map, hk]; rfl
  have rq : ∀ (k : Nat) x, p.protos[k]? = some x → (p.protos.map Fn.row)[k]? = some (Fn.row x) := fun k x hk => by rw [List.getElem?_map, hk]; rfl
  generalize hz : sglE p = z
  unfold sglE at hz
  generalize p.code.map Ins.row = rcode at *
  generalize p.protos.map Fn.row = rprotos at *
  generalize p.ups.map Upv.row = rups at *
  generalize p.row = pr at *
  refine Pure.of 0 (CallS.enter proto_single_ok (Nat.le_of_ble_eq_true rfl) (Run.go 100 ?_))
  simp -implicitDefEqProofs only [go_sem, initSl, h1, h2]
  refine CallS.pureF hli (by simp -implicitDefEqProofs only [go_sem, hps]) ?_
  by_cases c0 : limE p = 0
  case neg =>
    rw [if_pos c0] at hz
    subst hz
    simp -implicitDefEqProofs only [go_sem, c0]
  rw [if_neg (by simpa using c0)] at hz
  simp -implicitDefEqProofs only [go_sem, c0, h1, h2]
  refine CallS.pureF hfo (by simp -implicitDefEqProofs only [go_sem, hps]) ?_
  by_cases c1 : formE p = 0
  case neg =>
    rw [if_pos c1] at hz
    subst hz
    simp -implicitDefEqProofs only [go_sem, c1]
  rw [if_neg (by simpa using c1)] at hz
  simp -implicitDefEqProofs only [go_sem, c1, h1, h2, h5, k1]
  refine Run.keep [25, 24, 23, 1] ?_
  refine Run.rounds (fun (x : Nat × Nat) => ⟨[(25, .int .i64 x.1), (24, .int .i64 p.code.length), (23, .isl rcode), (1, .ptr (20 * 10000 + 1) 0 0 0)], [((20 * 10000 + 1), 0, .rows 11 [pr])], x.2⟩) (fun x => x.1 ≤ p.code.length ∧ ∀ y ∈ p.code.take x.1, instE p y = 0) (fun x => p.code.length - x.1) (0, 1) (by simp -implicitDefEqProofs only [go_sem]) ⟨Nat.zero_le _, by simp⟩ ?_
  rintro ⟨k, m⟩ ⟨hk, hno⟩ ih
  simp only at hk hno ih ⊢
  refine Run.unf proto_single_l0_eq (Run.go 100 ?_)
  by_cases hlt : k < p.code.length
  · have q0 : ((k : Int) < (p.code.length : Int)) = True := eq_true (by omega)
    have q1 : ((0 : Int) ≤ (k : Int)) = True := eq_true (by omega)
    obtain ⟨x, hx⟩ : ∃ x, p.code[k]? = some x := ⟨p.code[k], by simp [hlt]⟩
    have hxr := ri k x hx
    have hix := hin x
    have hzk : ((k + 1 : Nat) : Int) = (k : Int) + 1 := by omega
    simp only [Ins.v, Ins.row] at hix
    simp -implicitDefEqProofs only [go_sem, q0, q1, k1, zi, h1, h2, hxr, Ins.row, hlt, Option.some.injEq, forall_eq']
    refine CallS.pureF hix (by simp -implicitDefEqProofs only [go_sem, hps]) ?_
    by_cases hx2 : instE p x = 0
    · simp -implicitDefEqProofs only [go_sem, hx2]
      refine ⟨by omega, ?_⟩
      exact ih _ (k + 1, m + 1) ⟨by simp only; omega, takeMap_next hno hx hx2⟩ (by simp only; omega) (by simp -implicitDefEqProofs only [go_sem, hzk])
    · have hf := firstNZ_take (f := instE p) hno hx hx2
      rw [if_pos (by rw [hf]; exact hx2), hf] at hz
      subst hz
      simp -implicitDefEqProofs only [go_sem, hx2]
  have e : k = p.code.length := by omega
  subst e
  rw [List.take_length] at hno
  rw [if_neg (by rw [firstNZ_zero (fun y hy => by obtain ⟨w, hw, rfl⟩ := List.mem_map.1 hy; exact hno w hw)]; simp)] at hz
  clear ih hlt hk
  simp -implicitDefEqProofs only [go_sem, Int.lt_irrefl, h1, h2, h8, k2]
  refine Run.keep [39, 38, 37, 1] ?_
  refine Run.rounds (fun (x : Nat × Nat) => ⟨[(39, .int .i64 x.1), (38, .int .i64 p.protos.length), (37, .isl rprotos), (1, .ptr (20 * 10000 + 1) 0 0 0)], [((20 * 10000 + 1), 0, .rows 11 [pr])], x.2⟩) (fun x => x.1 ≤ p.protos.length ∧ (p.protos.take x.1).any (badQ p) = false) (fun x => p.protos.length - x.1) (0, m) (by simp -implicitDefEqProofs only [go_sem]) ⟨Nat.zero_le _, rfl⟩ ?_
  clear m hno
  rintro ⟨k, m⟩ ⟨hk, hno⟩ ih
  simp only at hk hno ih ⊢
  refine Run.unf proto_single_l1_eq (Run.go 100 ?_)
  by_cases hlt : k < p.protos.length
  · have q0 : ((k : Int) < (p.protos.length : Int)) = True := eq_true (by omega)
    have q1 : ((0 : Int) ≤ (k : Int)) = True := eq_true (by omega)
    obtain ⟨q, hx⟩ : ∃ x, p.protos[k]? = some x := ⟨p.protos[k], by simp [hlt]⟩
    have hxr := rq k q hx
    have hzk : ((k + 1 : Nat) : Int) = (k : Int) + 1 := by omega
    have hqb := (hp.child (List.mem_of_getElem? hx)).self.ups
    obtain ⟨g1, g2⟩ := fn_row11 q
    have g9 : q.row[9]? = some (.isl (q.ups.map Upv.row)) := by rw [Fn.row_eq]; rfl
    have j3 : (q.ups.map Upv.row).length = q.ups.length := List.length_map ..
    have zu := eq_true (rowsz_of Upv.row 3 (fun _ => rfl) q.ups)
    have ru : ∀ (k : Nat) x, q.ups[k]? = some x → (q.ups.map Upv.row)[k]? = some (Upv.row x) := fun k x hk => by rw [List.getElem?_map, hk]; rfl
    generalize q.ups.map Upv.row = qups at *
    generalize q.row = qr at *
    simp -implicitDefEqProofs only [go_sem, q0, q1, k2, zq, g1, g2, g9, j3, hxr, hlt, Option.some.injEq, forall_eq']
    refine Run.keep [46, 45, 44, 39, 38, 37, 1] ?_
    refine Run.rounds (fun (x : Nat × Nat) => ⟨[(46, .int .i64 x.1), (45, .int .i64 q.ups.length), (44, .isl qups), (39, .int .i64 k), (38, .int .i64 p.protos.length), (37, .isl rprotos), (1, .ptr (20 * 10000 + 1) 0 0 0)], [((20 * 10000 + 1), 0, .rows 11 [pr])], x.2⟩) (fun x => x.1 ≤ q.ups.length ∧ (q.ups.take x.1).any (badU p.regs p.ups.length) = false) (fun x => q.ups.length - x.1) (0, m + 1) (by simp -implicitDefEqProofs only [go_sem]) ⟨Nat.zero_le _, rfl⟩ ?_
    rintro ⟨j, m⟩ ⟨hj, hnj⟩ ihj
    simp only at hj hnj ihj ⊢
    refine Run.unf proto_single_l2_eq (Run.go 100 ?_)
    by_cases hltj : j < q.ups.length
    · have q2 : ((j : Int) < (q.ups.length : Int)) = True := eq_true (by omega)
      have q3 : ((0 : Int) ≤ (j : Int)) = True := eq_true (by omega)
      obtain ⟨u, hu⟩ : ∃ x, q.ups[j]? = some x := ⟨q.ups[j], by simp [hltj]⟩
      have hur := ru j u hu
      have hzj : ((j + 1 : Nat) : Int) = (j : Int) + 1 := by omega
      obtain ⟨un, ul, ui⟩ := u
      have bad : badU p.regs p.ups.length ⟨un, ul, ui⟩ = true → z = 4 := fun hb => hz ▸ if_pos (any_at hx (any_at hu hb))
      by_cases hbu : badU p.regs p.ups.length ⟨un, ul, ui⟩ = true
      · obtain rfl := bad hbu
        cases ul
        · have d1 : ((p.ups.length : Int) ≤ ui) = True := eq_true (by simpa [badU] using hbu)
          simp -implicitDefEqProofs only [go_sem, q2, q3, j3, zu, hur, Upv.row, hltj, h1, h2, h4, h9, k3, d1, ge_iff_le, Option.some.injEq, forall_eq']
        · have d1 : (p.regs ≤ ui) = True := eq_true (by simpa [badU] using hbu)
          simp -implicitDefEqProofs only [go_sem, q2, q3, j3, zu, hur, Upv.row, hltj, h1, h2, h4, h9, k3, d1, ge_iff_le, Option.some.injEq, forall_eq']
      · have hbu' : badU p.regs p.ups.length ⟨un, ul, ui⟩ = false := by simpa only [Bool.not_eq_true] using hbu
        cases ul
        · have d1 : ((p.ups.length : Int) ≤ ui) = False := eq_false (by simpa [badU] using hbu)
          simp -implicitDefEqProofs only [go_sem, q2, q3, j3, zu, hur, Upv.row, hltj, h1, h2, h4, h9, k3, d1, ge_iff_le, Option.some.injEq, forall_eq']
          refine ⟨by omega, ?_⟩
          exact ihj _ (j + 1, m + 1) ⟨by simp only; omega, any_next hnj hu hbu'⟩ (by simp only; omega) (by simp -implicitDefEqProofs only [go_sem, hzj])
        · have d1 : (p.regs ≤ ui) = False := eq_false (by simpa [badU] using hbu)
          simp -implicitDefEqProofs only [go_sem, q2, q3, j3, zu, hur, Upv.row, hltj, h1, h2, h4, h9, k3, d1, ge_iff_le, Option.some.injEq, forall_eq']
          refine ⟨by omega, ?_⟩
          exact ihj _ (j + 1, m + 1) ⟨by simp only; omega, any_next hnj hu hbu'⟩ (by simp only; omega) (by simp -implicitDefEqProofs only [go_sem, hzj])
    have e : j = q.ups.length := by omega
    subst e
    have l := any_all hnj
    simp -implicitDefEqProofs only [go_sem, Int.lt_irrefl]
    refine ⟨by omega, ?_⟩
    exact ih _ (k + 1, m) ⟨by simp only; omega, any_next hno hx l⟩ (by simp only; omega) (by simp -implicitDefEqProofs only [go_sem, hzk])
  have e : k = p.protos.length := by omega
  subst e
  have l := any_all hno
  obtain rfl : z = 0 := hz ▸ if_neg (fun h => by simp [l] at h)
  simp -implicitDefEqProofs only [go_sem, Int.lt_irrefl]
end Go.Proofs.YtkjcokmbjdafnaaDoor
