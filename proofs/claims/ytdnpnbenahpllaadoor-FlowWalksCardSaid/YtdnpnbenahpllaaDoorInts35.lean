/-
  Lists of numbers compared by the statements. No condition.
-/
import Derived.Test.YtdnpnbenahpllaaDoorCode
import Derived.Test.YtdnpnbenahpllaaDoorSet
set_option linter.unusedVariables false
set_option linter.unusedSimpArgs false
set_option maxRecDepth 100000
set_option maxHeartbeats 0
namespace Go.Proofs.YtdnpnbenahpllaaDoor
open Go.Abs
attribute [local irreducible] CallS Run
theorem rowszW (l : List Int) : rowsz (l.map zrw) 1 = True := eq_true fun r hr => by obtain ⟨y, _, rfl⟩ := List.mem_map.1 hr; rfl
theorem take_ne {a b : List Int} {k : Nat} {x y : Int} (h : a.take k = b.take k) (ha : a[k]? = some x) (hb : b[k]? = some y) : (a.take (k + 1) = b.take (k + 1)) = (x = y) := by
  rw [List.take_add_one, List.take_add_one, ha, hb, h, eq_iff_iff]
  simp
theorem ints_pure (a b : List Int) (hB : b.length ≤ 1000000) : Pure Tryd.prog 11 [.isl (a.map zrw), .isl (b.map zrw)] (.bool (decide (a = b))) := by
  refine Pure.of 0 (CallS.enter scriptinglaw35_ints_ok (Nat.le_of_ble_eq_true rfl) ?_)
  have hla : (a.map zrw).length = a.length := List.length_map ..
  have hlb : (b.map zrw).length = b.length := List.length_map ..
  have hra : ∀ (k : Nat) (x : Int), a[k]? = some x → (a.map zrw)[k]? = some [.int .i64 x] := fun k x h => by rw [List.getElem?_map, h]; rfl
  have hrb : ∀ (k : Nat) (x : Int), b[k]? = some x → (b.map zrw)[k]? = some [.int .i64 x] := fun k x h => by rw [List.getElem?_map, h]; rfl
  have hza := rowszW a
  have hzb := rowszW b
  generalize a.map zrw = A at *
  generalize b.map zrw = B at *
  refine Run.go 100 ?_
  by_cases hl : a.length = b.length
  rotate_left
  · have e : decide (a = b) = false := by simp; intro h; exact hl (by rw [h])
    have e2 : ((a.length : Int) = (b.length : Int)) = False := eq_false (by omega)
    rw [e]
    simp -implicitDefEqProofs only [go_sem, initSl, hla, hlb, e2]
  have e2 : ((b.length : Int) = (b.length : Int)) = True := eq_true rfl
  simp -implicitDefEqProofs only [go_sem, initSl, hla, hlb, hl]
  refine Run.rounds (fun (x : Nat) => ⟨[(13, .int .i64 x), (12, .int .i64 b.length), (1, .isl B), (0, .isl A)], [], 0⟩) (fun x => x ≤ b.length ∧ a.take x = b.take x) (fun x => b.length - x) 0 (by simp -implicitDefEqProofs only [go_sem]) ⟨by omega, by simp⟩ ?_
  rintro k ⟨hk, ht⟩ ih
  have hz : ((k + 1 : Nat) : Int) = (k : Int) + 1 := by omega
  refine Run.unf scriptinglaw35_ints_l0_eq (Run.go 100 ?_)
  by_cases c : (k : Int) < b.length
  rotate_left
  · have e : decide (a = b) = true := by
      rw [List.take_of_length_le (by omega), List.take_of_length_le (by omega)] at ht
      simp [ht]
    rw [e]
    simp -implicitDefEqProofs only [go_sem, c]
  obtain ⟨x, hx⟩ : ∃ x, a[k]? = some x := ⟨a[k]'(by omega), by simp⟩
  obtain ⟨y, hy⟩ : ∃ y, b[k]? = some y := ⟨b[k]'(by omega), by simp⟩
  have hr := hra k x hx
  have hs := hrb k y hy
  have k0 : ((0 : Int) ≤ (k : Int)) = True := eq_true (by omega)
  have k1 : ((k : Int) < (b.length : Int)) = True := eq_true c
  have k2 : (k < b.length) = True := eq_true (by omega)
  have k3 : ((k : Int) < (a.length : Int)) = True := eq_true (by omega)
  have k4 : (k < a.length) = True := eq_true (by omega)
  have htn := take_ne ht hx hy
  by_cases d : x = y
  · subst d
    simp -implicitDefEqProofs only [go_sem, hla, hlb, hr, hs, hza, hzb, k0, k1, k2, k3, k4, Option.some.injEq, forall_eq']
    refine ⟨by omega, ?_⟩
    exact ih _ (k + 1) ⟨by omega, htn ▸ rfl⟩ (by omega) (by simp only [hz]; simp -implicitDefEqProofs only [go_sem])
  · have d' := eq_false d
    have e : decide (a = b) = false := by
      simp only [decide_eq_false_iff_not]
      intro h
      subst h
      rw [hx] at hy
      injection hy with hy
      exact d hy
    rw [e]
    simp -implicitDefEqProofs only [go_sem, hla, hlb, hr, hs, hza, hzb, k0, k1, k2, k3, k4, d', Option.some.injEq, forall_eq']
end Go.Proofs.YtdnpnbenahpllaaDoor
