/-
  slices.ContainsFunc over whatever function. No condition.
-/
import Derived.Test.YtkjcokmbjdafnaaDoorFnCk
set_option linter.unusedVariables false
set_option linter.unusedSimpArgs false
set_option maxRecDepth 100000
set_option maxHeartbeats 0
namespace Go.Proofs.YtkjcokmbjdafnaaDoor
open Go.Abs
attribute [local irreducible] CallS Run RndS
theorem any_next {α : Type} {l : List α} {k : Nat} {x : α} {f : α → Bool} (h : (l.take k).any f = false) (hx : l[k]? = some x) (hf : f x = false) : (l.take (k + 1)).any f = false := by
  rw [List.take_add_one, hx]; simp [h, hf]
theorem any_at {α : Type} {l : List α} {k : Nat} {x : α} {f : α → Bool} (hx : l[k]? = some x) (hf : f x = true) : l.any f = true := List.any_eq_true.2 ⟨x, List.mem_of_getElem? hx, hf⟩
theorem any_all {α : Type} {l : List α} {f : α → Bool} (h : (l.take l.length).any f = false) : l.any f = false := by rwa [List.take_length] at h
theorem contains_up (l : List Upv) (hl : l.length ≤ 17592186043904) (f : Upv → Bool) (g : FuncId) (cs : List V) (h : Heap) (hg : hasBody Tryd.prog g = true) (hf : ∀ x ∈ l, ∀ n, CallS Tryd.prog g (.agg (Upv.row x) :: cs) h n fun r h' n' => r = .bool (f x) ∧ h' = h) (n : Nat) :
    CallS Tryd.prog 45 [.isl (l.map Upv.row), .fn g cs] h n fun r h' n' => r = .bool (l.any f) ∧ h' = h := by
  have key : ∀ n, CallS Tryd.prog 60 [.isl (l.map Upv.row), .fn g cs] h n fun r h' n' => (∃ z : Int, r = .int .i64 z ∧ decide (0 ≤ z) = l.any f) ∧ h' = h := by
    intro n
    have la : (l.map Upv.row).length = l.length := List.length_map ..
    have za := eq_true (rowsz_of Upv.row 3 (fun _ => rfl) l)
    have ra : ∀ (k : Nat) x, l[k]? = some x → (l.map Upv.row)[k]? = some (Upv.row x) := fun k x hk => by rw [List.getElem?_map, hk]; rfl
    generalize l.map Upv.row = A at *
    refine CallS.enterK slices_IndexFunc_api_Up_api_Up_ok (Nat.le_of_ble_eq_true rfl) fun Q hQ => Run.go 100 ?_
    simp -implicitDefEqProofs only [go_sem, initSl, la]
    refine Run.roundsK (fun (x : Nat × Nat) => ⟨[(8, .int .i64 x.1), (7, .int .i64 l.length), (1, .fn g cs), (0, .isl A)], h, x.2⟩) (fun x => x.1 ≤ l.length ∧ (l.take x.1).any f = false) (fun x => l.length - x.1) (0, n) (Weak.wk ⟨slotsW_iff.1 (by simp -implicitDefEqProofs only [go_sem]), fun _ h => h, Nat.le_refl _⟩) ⟨Nat.zero_le _, rfl⟩ ?_
    rintro ⟨k, m⟩ ⟨hk, hno⟩ ih
    simp only at hk hno ih ⊢
    refine Run.unf slices_IndexFunc_api_Up_api_Up_l0_eq (Run.go 100 ?_)
    by_cases hlt : k < l.length
    · have q0 : ((k : Int) < (l.length : Int)) = True := eq_true (by omega)
      have q1 : ((0 : Int) ≤ (k : Int)) = True := eq_true (by omega)
      obtain ⟨x, hx⟩ : ∃ x, l[k]? = some x := ⟨l[k], by simp [hlt]⟩
      have hxr := ra k x hx
      have hc := hf x (List.mem_of_getElem? hx)
      have hzk : ((k + 1 : Nat) : Int) = (k : Int) + 1 := by omega
      simp -implicitDefEqProofs only [go_sem, q0, q1, la, za, hxr, Upv.row, hg, Option.some.injEq, forall_eq']
      repeat refine And.intro (by omega) ?_
      refine ⟨hg, ?_⟩
      refine (hc m).mono ?_
      rintro r h' n' ⟨rfl, rfl⟩
      by_cases hfx : f x = true
      · simp -implicitDefEqProofs only [go_sem, hfx]
        subst hQ
        have : decide ((0 : Int) ≤ k) = true := decide_eq_true (by omega)
        exact .is ⟨⟨k, rfl, by rw [this, any_at hx hfx]⟩, rfl⟩
      · have hfx : f x = false := by simpa using hfx
        simp -implicitDefEqProofs only [go_sem, hfx]
        refine ⟨by omega, ?_⟩
        exact ih _ (k + 1, n') ⟨by simp only; omega, any_next hno hx hfx⟩ (by simp only; omega) (Weak.wk ⟨slotsW_iff.1 (by simp -implicitDefEqProofs only [go_sem, hzk]), fun _ h => h, Nat.le_refl _⟩)
    · have e : k = l.length := by omega
      subst e
      simp -implicitDefEqProofs only [go_sem, Int.lt_irrefl]
      subst hQ
      exact .is ⟨⟨-1, rfl, by rw [any_all hno]; rfl⟩, rfl⟩
  generalize l.map Upv.row = A at *
  refine CallS.enterK slices_ContainsFunc_api_Up_api_Up_ok (Nat.le_of_ble_eq_true rfl) fun Q hQ => Run.go 100 ?_
  simp -implicitDefEqProofs only [go_sem, initSl]
  refine (key n).mono ?_
  rintro r h' n' ⟨⟨z, rfl, hz⟩, rfl⟩
  simp -implicitDefEqProofs only [go_sem, hz]
  subst hQ
  exact .is ⟨rfl, rfl⟩
theorem contains_vr (l : List Vr) (hl : l.length ≤ 17592186043904) (f : Vr → Bool) (g : FuncId) (cs : List V) (h : Heap) (hg : hasBody Tryd.prog g = true) (hf : ∀ x ∈ l, ∀ n, CallS Tryd.prog g (.agg (Vr.row x) :: cs) h n fun r h' n' => r = .bool (f x) ∧ h' = h) (n : Nat) :
    CallS Tryd.prog 47 [.isl (l.map Vr.row), .fn g cs] h n fun r h' n' => r = .bool (l.any f) ∧ h' = h := by
  have key : ∀ n, CallS Tryd.prog 61 [.isl (l.map Vr.row), .fn g cs] h n fun r h' n' => (∃ z : Int, r = .int .i64 z ∧ decide (0 ≤ z) = l.any f) ∧ h' = h := by
    intro n
    have la : (l.map Vr.row).length = l.length := List.length_map ..
    have za := eq_true (rowsz_of Vr.row 5 (fun _ => rfl) l)
    have ra : ∀ (k : Nat) x, l[k]? = some x → (l.map Vr.row)[k]? = some (Vr.row x) := fun k x hk => by rw [List.getElem?_map, hk]; rfl
    generalize l.map Vr.row = A at *
    refine CallS.enterK slices_IndexFunc_api_Var_api_Var_ok (Nat.le_of_ble_eq_true rfl) fun Q hQ => Run.go 100 ?_
    simp -implicitDefEqProofs only [go_sem, initSl, la]
    refine Run.roundsK (fun (x : Nat × Nat) => ⟨[(8, .int .i64 x.1), (7, .int .i64 l.length), (1, .fn g cs), (0, .isl A)], h, x.2⟩) (fun x => x.1 ≤ l.length ∧ (l.take x.1).any f = false) (fun x => l.length - x.1) (0, n) (Weak.wk ⟨slotsW_iff.1 (by simp -implicitDefEqProofs only [go_sem]), fun _ h => h, Nat.le_refl _⟩) ⟨Nat.zero_le _, rfl⟩ ?_
    rintro ⟨k, m⟩ ⟨hk, hno⟩ ih
    simp only at hk hno ih ⊢
    refine Run.unf slices_IndexFunc_api_Var_api_Var_l0_eq (Run.go 100 ?_)
    by_cases hlt : k < l.length
    · have q0 : ((k : Int) < (l.length : Int)) = True := eq_true (by omega)
      have q1 : ((0 : Int) ≤ (k : Int)) = True := eq_true (by omega)
      obtain ⟨x, hx⟩ : ∃ x, l[k]? = some x := ⟨l[k], by simp [hlt]⟩
      have hxr := ra k x hx
      have hc := hf x (List.mem_of_getElem? hx)
      have hzk : ((k + 1 : Nat) : Int) = (k : Int) + 1 := by omega
      simp -implicitDefEqProofs only [go_sem, q0, q1, la, za, hxr, Vr.row, hg, Option.some.injEq, forall_eq']
      repeat refine And.intro (by omega) ?_
      refine ⟨hg, ?_⟩
      refine (hc m).mono ?_
      rintro r h' n' ⟨rfl, rfl⟩
      by_cases hfx : f x = true
      · simp -implicitDefEqProofs only [go_sem, hfx]
        subst hQ
        have : decide ((0 : Int) ≤ k) = true := decide_eq_true (by omega)
        exact .is ⟨⟨k, rfl, by rw [this, any_at hx hfx]⟩, rfl⟩
      · have hfx : f x = false := by simpa using hfx
        simp -implicitDefEqProofs only [go_sem, hfx]
        refine ⟨by omega, ?_⟩
        exact ih _ (k + 1, n') ⟨by simp only; omega, any_next hno hx hfx⟩ (by simp only; omega) (Weak.wk ⟨slotsW_iff.1 (by simp -implicitDefEqProofs only [go_sem, hzk]), fun _ h => h, Nat.le_refl _⟩)
    · have e : k = l.length := by omega
      subst e
      simp -implicitDefEqProofs only [go_sem, Int.lt_irrefl]
      subst hQ
      exact .is ⟨⟨-1, rfl, by rw [any_all hno]; rfl⟩, rfl⟩
  generalize l.map Vr.row = A at *
  refine CallS.enterK slices_ContainsFunc_api_Var_api_Var_ok (Nat.le_of_ble_eq_true rfl) fun Q hQ => Run.go 100 ?_
  simp -implicitDefEqProofs only [go_sem, initSl]
  refine (key n).mono ?_
  rintro r h' n' ⟨⟨z, rfl, hz⟩, rfl⟩
  simp -implicitDefEqProofs only [go_sem, hz]
  subst hQ
  exact .is ⟨rfl, rfl⟩
theorem contains_int (l : List Int) (hl : l.length ≤ 17592186043904) (f : Int → Bool) (g : FuncId) (cs : List V) (h : Heap) (hg : hasBody Tryd.prog g = true) (hf : ∀ x ∈ l, ∀ n, CallS Tryd.prog g (.int .i64 x :: cs) h n fun r h' n' => r = .bool (f x) ∧ h' = h) (n : Nat) :
    CallS Tryd.prog 49 [.isl (l.map lrow), .fn g cs] h n fun r h' n' => r = .bool (l.any f) ∧ h' = h := by
  have key : ∀ n, CallS Tryd.prog 62 [.isl (l.map lrow), .fn g cs] h n fun r h' n' => (∃ z : Int, r = .int .i64 z ∧ decide (0 ≤ z) = l.any f) ∧ h' = h := by
    intro n
    have la : (l.map lrow).length = l.length := List.length_map ..
    have za := eq_true (rowsz_of lrow 1 (fun _ => rfl) l)
    have ra : ∀ (k : Nat) x, l[k]? = some x → (l.map lrow)[k]? = some (lrow x) := fun k x hk => by rw [List.getElem?_map, hk]; rfl
    generalize l.map lrow = A at *
    refine CallS.enterK slices_IndexFunc_int_int_ok (Nat.le_of_ble_eq_true rfl) fun Q hQ => Run.go 100 ?_
    simp -implicitDefEqProofs only [go_sem, initSl, la]
    refine Run.roundsK (fun (x : Nat × Nat) => ⟨[(8, .int .i64 x.1), (7, .int .i64 l.length), (1, .fn g cs), (0, .isl A)], h, x.2⟩) (fun x => x.1 ≤ l.length ∧ (l.take x.1).any f = false) (fun x => l.length - x.1) (0, n) (Weak.wk ⟨slotsW_iff.1 (by simp -implicitDefEqProofs only [go_sem]), fun _ h => h, Nat.le_refl _⟩) ⟨Nat.zero_le _, rfl⟩ ?_
    rintro ⟨k, m⟩ ⟨hk, hno⟩ ih
    simp only at hk hno ih ⊢
    refine Run.unf slices_IndexFunc_int_int_l0_eq (Run.go 100 ?_)
    by_cases hlt : k < l.length
    · have q0 : ((k : Int) < (l.length : Int)) = True := eq_true (by omega)
      have q1 : ((0 : Int) ≤ (k : Int)) = True := eq_true (by omega)
      obtain ⟨x, hx⟩ : ∃ x, l[k]? = some x := ⟨l[k], by simp [hlt]⟩
      have hxr := ra k x hx
      have hc := hf x (List.mem_of_getElem? hx)
      have hzk : ((k + 1 : Nat) : Int) = (k : Int) + 1 := by omega
      simp -implicitDefEqProofs only [go_sem, q0, q1, la, za, hxr, lrow, hg, Option.some.injEq, forall_eq']
      repeat refine And.intro (by omega) ?_
      refine ⟨hg, ?_⟩
      refine (hc m).mono ?_
      rintro r h' n' ⟨rfl, rfl⟩
      by_cases hfx : f x = true
      · simp -implicitDefEqProofs only [go_sem, hfx]
        subst hQ
        have : decide ((0 : Int) ≤ k) = true := decide_eq_true (by omega)
        exact .is ⟨⟨k, rfl, by rw [this, any_at hx hfx]⟩, rfl⟩
      · have hfx : f x = false := by simpa using hfx
        simp -implicitDefEqProofs only [go_sem, hfx]
        refine ⟨by omega, ?_⟩
        exact ih _ (k + 1, n') ⟨by simp only; omega, any_next hno hx hfx⟩ (by simp only; omega) (Weak.wk ⟨slotsW_iff.1 (by simp -implicitDefEqProofs only [go_sem, hzk]), fun _ h => h, Nat.le_refl _⟩)
    · have e : k = l.length := by omega
      subst e
      simp -implicitDefEqProofs only [go_sem, Int.lt_irrefl]
      subst hQ
      exact .is ⟨⟨-1, rfl, by rw [any_all hno]; rfl⟩, rfl⟩
  generalize l.map lrow = A at *
  refine CallS.enterK slices_ContainsFunc_int_int_ok (Nat.le_of_ble_eq_true rfl) fun Q hQ => Run.go 100 ?_
  simp -implicitDefEqProofs only [go_sem, initSl]
  refine (key n).mono ?_
  rintro r h' n' ⟨⟨z, rfl, hz⟩, rfl⟩
  simp -implicitDefEqProofs only [go_sem, hz]
  subst hQ
  exact .is ⟨rfl, rfl⟩
end Go.Proofs.YtkjcokmbjdafnaaDoor
