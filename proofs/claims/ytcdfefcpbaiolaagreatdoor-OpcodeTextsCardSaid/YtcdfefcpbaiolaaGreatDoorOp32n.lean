/-
  OpcodeNames. No condition.
-/
import Derived.Test.YtcdfefcpbaiolaaGreatDoorAw32
import Derived.Test.YtcdfefcpbaiolaaGreatDoorOpc2
import Derived.Test.YtcdfefcpbaiolaaGreatDoorArg
set_option linter.unusedVariables false
set_option linter.unusedSimpArgs false
set_option maxRecDepth 100000
set_option maxHeartbeats 0
namespace Go.Proofs.YtcdfefcpbaiolaaGreatDoor
open Go Go.Abs
attribute [local irreducible] CallS Run
-- EV: Frm.v, Frm.row

/-- Where a text stands first. -/
def idxF (s : List UInt8) : List (List UInt8) → Option Nat
  | [] => none
  | w :: r => if s = w then some 0 else (idxF s r).map (· + 1)
def idxV (ws : List (List UInt8)) (s : List UInt8) : Int := ((idxF s ws).map fun k => (k : Int)).getD (-1)
theorem idxF_some {s : List UInt8} : ∀ {ws : List (List UInt8)} {k : Nat}, idxF s ws = some k → ws[k]? = some s
  | [], k, h => by cases h
  | w :: r, k, h => by
    unfold idxF at h
    split at h
    · rename_i e; injection h with h; subst h; rw [e]; rfl
    · obtain ⟨j, hj, rfl⟩ := Option.map_eq_some_iff.1 h
      simpa using idxF_some hj
theorem idxF_at {s : List UInt8} : ∀ {ws : List (List UInt8)} {k : Nat}, ws[k]? = some s → (∀ j, j < k → ws[j]? ≠ some s) → idxF s ws = some k
  | [], k, h, _ => by simp at h
  | w :: r, 0, h, _ => by
    simp at h
    unfold idxF
    rw [if_pos h.symm]
  | w :: r, k + 1, h, hn => by
    have h0 := hn 0 (by omega)
    unfold idxF
    rw [if_neg (fun e => h0 (by rw [e]; rfl)), idxF_at (k := k) (by simpa using h) fun j hj => by simpa using hn (j + 1) (by omega)]
    rfl
theorem idxF_none {s : List UInt8} : ∀ {ws : List (List UInt8)}, (∀ j, j < ws.length → ws[j]? ≠ some s) → idxF s ws = none
  | [], _ => rfl
  | w :: r, h => by
    have h0 := h 0 (by simp)
    unfold idxF
    rw [if_neg (fun e => h0 (by rw [e]; rfl)), idxF_none fun j hj => by simpa using h (j + 1) (by simpa using hj)]
    rfl

theorem index_pure (ws : List (List UInt8)) (hB : ws.length ≤ 100000) (s : List UInt8) : Abs.Pure Tryz.prog 39 [.isl (ws.map fun w => [.str w]), .str s] (.int .i64 (idxV ws s)) := by
  refine Pure.of 0 (CallS.enter slices_Index_string_string_ok (Nat.le_of_ble_eq_true rfl) ?_)
  have hrow : ∀ (k : Nat) (x : List UInt8), ws[k]? = some x → (ws.map fun w => [V.str w])[k]? = some [.str x] := fun k x h => by rw [List.getElem?_map, h]; rfl
  have hlen : (ws.map fun w => [V.str w]).length = ws.length := List.length_map ..
  have hsz : rowsz (ws.map fun w => [V.str w]) 1 = True := eq_true fun r hr => by obtain ⟨y, _, rfl⟩ := List.mem_map.1 hr; rfl
  generalize (ws.map fun w => [V.str w]) = es at *
  refine Run.go 100 ?_
  simp -implicitDefEqProofs only [go_sem, Frm.v, Frm.row, initSl, hlen]
  refine Run.rounds (fun (x : Nat) => ⟨[(8, .int .i64 x), (7, .int .i64 ws.length), (1, .str s), (0, .isl es)], [], 0⟩) (fun x => x ≤ ws.length ∧ ∀ j, j < x → ws[j]? ≠ some s) (fun x => ws.length - x) 0 (by simp -implicitDefEqProofs only [go_sem, Frm.v, Frm.row]) ⟨by omega, fun j h => by omega⟩ ?_
  rintro k ⟨hk, hn⟩ ih
  have hz : ((k + 1 : Nat) : Int) = (k : Int) + 1 := by omega
  refine Run.unf slices_Index_string_string_l0_eq (Run.go 100 ?_)
  by_cases c : (k : Int) < ws.length
  rotate_left
  · have e : idxV ws s = -1 := by unfold idxV; rw [idxF_none fun j hj => hn j (by omega)]; rfl
    rw [e]
    simp -implicitDefEqProofs only [go_sem, Frm.v, Frm.row, c]
  obtain ⟨x, hx⟩ : ∃ x, ws[k]? = some x := ⟨ws[k]'(by omega), by simp⟩
  have hr := hrow k x hx
  have k0 : ((0 : Int) ≤ (k : Int)) = True := eq_true (by omega)
  have k1 : ((k : Int) < (ws.length : Int)) = True := eq_true c
  have k2 : (k < ws.length) = True := eq_true (by omega)
  by_cases d : s = x
  · have e : idxV ws s = k := by unfold idxV; rw [idxF_at (by rw [hx, d]) hn]; rfl
    rw [e]
    have d' := eq_true d
    simp -implicitDefEqProofs only [go_sem, Frm.v, Frm.row, c, hlen, hr, hsz, k0, k1, k2, d', Option.some.injEq, forall_eq']
  · have d' := eq_false d
    simp -implicitDefEqProofs only [go_sem, Frm.v, Frm.row, c, hlen, hr, hsz, k0, k1, k2, d', Option.some.injEq, forall_eq']
    refine ⟨by omega, ih _ (k + 1) ⟨by omega, fun j hj => ?_⟩ (by omega) (by simp only [hz]; simp -implicitDefEqProofs only [go_sem, Frm.v, Frm.row])⟩
    by_cases e : j = k
    · subst e; rw [hx]; intro h; injection h with h; exact d h.symm
    · exact hn j (by omega)

theorem op_pure (s : List UInt8) : Abs.Pure Tryz.prog 17 [.str s] (.tup [.int .i64 (idxV wordT s + 1), .bool (decide (0 ≤ idxV wordT s))]) := by
  refine Pure.of 0 (CallS.enter opcode_Op_ok (Nat.le_of_ble_eq_true rfl) ?_)
  have hp := index_pure wordT (by decide) s
  have hb : -1 ≤ idxV wordT s ∧ idxV wordT s ≤ 1000 := by
    unfold idxV
    cases h : idxF s wordT with
    | none => simp
    | some k =>
      have := (List.getElem?_eq_some_iff.1 (idxF_some h)).1
      have hl : wordT.length = 29 := rfl
      simp; omega
  generalize idxV wordT s = v at *
  have hf : Abs.Pure Tryz.prog 40 [.str wordsS] (.isl (wordT.map fun w => [.str w])) := fields_pure
  have hs : (wordT.map fun w => [V.str w]).map (fun r => r.map (V.sub lost)) = wordT.map fun w => [V.str w] := by
    rw [List.map_map]; exact List.map_congr_left fun y _ => by simp [V.sub]
  generalize (wordT.map fun w => [V.str w]) = W at *
  refine Run.go 100 ?_
  simp -implicitDefEqProofs only [go_sem, Frm.v, Frm.row, initSl]
  refine CallS.pureF hf rfl ?_
  simp -implicitDefEqProofs only [go_sem, Frm.v, Frm.row]
  refine CallS.pureF hp (by simp -implicitDefEqProofs only [go_sem, Frm.v, Frm.row, hs]) ?_
  simp -implicitDefEqProofs only [go_sem, Frm.v, Frm.row]
  omega
theorem word_of {op : Int} (h : isOp op = true) : (frm op).word ≠ [] ∧ idxV wordT (frm op).word = op - 1 := by
  rcases op_cases h with rfl | rfl | rfl | rfl | rfl | rfl | rfl | rfl | rfl | rfl | rfl | rfl | rfl | rfl | rfl | rfl | rfl | rfl | rfl | rfl | rfl | rfl | rfl | rfl | rfl | rfl | rfl | rfl | rfl <;> exact ⟨by decide +kernel, by decide +kernel⟩
theorem word_no {op : Int} (h : isOp op = false) : (frm op).word = [] := by rw [frm, if_neg (by rw [h]; simp)]
theorem idx_nil : idxV wordT [] = -1 := by decide +kernel
theorem word_at {s : List UInt8} {k : Nat} (h : idxF s wordT = some k) : (frm ((k : Int) + 1)).word = s := by
  have h1 := idxF_some h
  have hk : k < 29 := (List.getElem?_eq_some_iff.1 h1).1
  have : ∀ k : Fin 29, some (frm ((k.val : Int) + 1)).word = wordT[k.val]? := by decide +kernel
  have := this ⟨k, hk⟩
  simp only at this
  rw [h1] at this
  injection this

end Go.Proofs.YtcdfefcpbaiolaaGreatDoor
