/-
 Steps of the verifier. No condition.
-/
import Derived.Test.YtfkfphpnijkdlaaGreatDoorVerT
import Derived.Test.YtfkfphpnijkdlaaGreatDoorFnMa
import Derived.Test.YtfkfphpnijkdlaaGreatDoorRwM
import Derived.Test.YtfkfphpnijkdlaaGreatDoorFnMb
set_option linter.unusedVariables false
set_option linter.unusedSimpArgs false
set_option maxRecDepth 100000
set_option maxHeartbeats 0
namespace Go.Proofs.YtfkfphpnijkdlaaGreatDoor
open Go.Abs
attribute [local irreducible] CallS Run
-- EV: Ins.v, Ins.row
-- EV: Ins.v, Ins.row
theorem nilRow (b n : Nat) : Wk ⟨[(0, .nils)], [], n⟩ ⟨[(0, .sl b n 0 0)], [(b, n, .rows 1 [])], n + 1⟩ :=
 (Wk.fresh b 1 _ _ _).trans (.turn id ⟨.nils, trivial⟩ (.at 0 rfl rfl (.refl _) trivial))
theorem cloneI (l : List Int) (hl : l.length ≤ 100000000) (n : Nat) : CallS Tryz.prog 39 [.isl (l.map zrw)] [] n fun r h' n' => ∃ st, r = .sl (39 * 10000 + 5) st 0 l.length ∧ h' = [((39 * 10000 + 5), st, .rows 1 (l.map zrw))] := by
 have hz' := rowszZ' l
 have hlen : (l.map zrw).length = l.length := List.length_map ..
 generalize l.map zrw = es at *
 refine CallS.enterK slices_Clone_int_int_ok (Nat.le_of_ble_eq_true rfl) fun Q hQ => Run.go 100 ?_
 simp -implicitDefEqProofs only [go_sem, Ins.v, Ins.row, initSl, hz', hlen]
 refine ⟨⟨by omega, ?_⟩, fun h0 => ?_⟩
 ·subst hQ; exact .is ⟨_, rfl, rfl⟩
 ·subst h0; rw [← hlen] at hQ; subst hQ
  exact .to ⟨n, rfl, rfl⟩ (nilRow _ n)
theorem cloneB (N : Nat) (f : Nat → Bool) (hl : N ≤ 100000000) (n : Nat) : CallS Tryz.prog 126 [.isl (boolR N f)] [] n fun r h' n' => ∃ st, r = .sl (126 * 10000 + 5) st 0 N ∧ h' = [((126 * 10000 + 5), st, .rows 1 (boolR N f))] := by
 have hz' := boolR_sz N f
 have hlen := boolR_len N f
 generalize boolR N f = es at *
 refine CallS.enterK slices_Clone_bool_bool_ok (Nat.le_of_ble_eq_true rfl) fun Q hQ => Run.go 100 ?_
 simp -implicitDefEqProofs only [go_sem, Ins.v, Ins.row, initSl, hz', hlen]
 refine ⟨⟨by omega, ?_⟩, fun h0 => ?_⟩
 ·subst hQ; exact .is ⟨_, rfl, rfl⟩
 ·subst h0; rw [← hlen] at hQ; subst hQ
  exact .to ⟨n, rfl, rfl⟩ (nilRow _ n)
theorem unset_call (N : Nat) (f : Nat → Bool) (a : Int) (ha : 0 ≤ a) (hl : N ≤ 100000000) (ha2 : a ≤ 100000000) (st n : Nat) :
  CallS Tryz.prog 127 [.sl (126 * 10000 + 5) st 0 N, .int .i64 a] [((126 * 10000 + 5), st, .rows 1 (boolR N f))] n fun r h' n' => h' = [((126 * 10000 + 5), st, .rows 1 (boolR N fun r => f r && decide ((r : Int) < a)))] := by
 obtain ⟨A, rfl⟩ : ∃ A : Nat, a = A := ⟨a.toNat, by omega⟩
 refine CallS.enterK verify_unset_ok (Nat.le_of_ble_eq_true rfl) fun Q hQ => Run.go 100 ?_
 simp -implicitDefEqProofs only [go_sem, Ins.v, Ins.row, initSl]
 refine Run.rounds (fun (k : Nat) => ⟨[(4, .int .i64 ((A + k : Nat) : Int)), (0, .sl (126 * 10000 + 5) st 0 N)], [((126 * 10000 + 5), st, .rows 1 (boolR N fun r => f r && (decide (r < A) || decide (A + k ≤ r))))], n⟩)
  (fun k => k ≤ N - A) (fun k => N - A - k) 0 ?_ (Nat.zero_le _) ?_
 ·have : (boolR N fun r => f r && (decide (r < A) || decide (A ≤ r))) = boolR N f := boolR_congr fun r hr => by
   have : (decide (r < A) || decide (A ≤ r)) = true := by simp; omega
   rw [this, Bool.and_true]
  simp -implicitDefEqProofs only [go_sem, Ins.v, Ins.row, Nat.add_zero]
  exact this.symm
 intro k hk ih
 refine Run.unf verify_unset_l0_eq (Run.go 100 ?_)
 have hlen := boolR_len N fun r => f r && (decide (r < A) || decide (A + k ≤ r))
 have hz' := boolR_sz N fun r => f r && (decide (r < A) || decide (A + k ≤ r))
 by_cases hlt : A + k < N
 ·have q0 : (((A + k : Nat) : Int) < (N : Int)) = True := eq_true (by omega)
  have q1 : ((0 : Int) ≤ ((A + k : Nat) : Int)) = True := eq_true (by omega)
  have hat := boolR_at (f := fun r => f r && (decide (r < A) || decide (A + k ≤ r))) hlt
  have hset := boolR_set (N := N) (r := A + k) (b := false) (f := fun r => f r && (decide (r < A) || decide (A + k ≤ r))) (fun r => f r && (decide (r < A) || decide (A + (k + 1) ≤ r))) (fun x hx => by
   by_cases c : x = A + k
   ·subst c
    have : (decide (A + k < A) || decide (A + (k + 1) ≤ A + k)) = false := by simp
    rw [if_pos rfl, this, Bool.and_false]
   ·rw [if_neg c]
    congr 1
    have : decide (A + (k + 1) ≤ x) = decide (A + k ≤ x) := decide_eq_decide.2 (by omega)
    rw [this])
  have hzk : ((A + (k + 1) : Nat) : Int) = ((A + k : Nat) : Int) + 1 := by omega
  generalize (boolR N fun r => f r && (decide (r < A) || decide (A + k ≤ r))) = es at *
  simp -implicitDefEqProofs only [go_sem, Ins.v, Ins.row, q0, q1, hlen, hz', hat, hlt, Option.some.injEq, forall_eq']
  refine ⟨by omega, ih _ (k + 1) (by omega) (by omega) (by simp -implicitDefEqProofs only [go_sem, Ins.v, Ins.row, hzk, hset])⟩
 ·have q0 : (((A + k : Nat) : Int) < (N : Int)) = False := eq_false (by omega)
  have hfin : (boolR N fun r => f r && (decide (r < A) || decide (A + k ≤ r))) = boolR N fun r => f r && decide ((r : Int) < A) := boolR_congr fun r hr => by
   have e1 : decide (A + k ≤ r) = false := decide_eq_false (by omega)
   have e2 : decide ((r : Int) < (A : Int)) = decide (r < A) := decide_eq_decide.2 (by omega)
   rw [e1, e2, Bool.or_false]
  simp -implicitDefEqProofs only [go_sem, Ins.v, Ins.row, q0, hfin]
  subst hQ; exact .is rfl
-- EV: Ins.v, Ins.row
theorem above_call (i : Ins) (x : Int) (X : Blk) (st sti : Nat) (n : Nat) :
  CallS Tryz.prog 129 [.int .i64 x, .ptr (115 * 10000 + 2) sti 0 0] [((39 * 10000 + 5), st, X), ((115 * 10000 + 2), sti, .rows 5 [i.row])] n fun r h' n' => r = .bool (decide (i.a ≤ x)) ∧ h' = [((39 * 10000 + 5), st, X), ((115 * 10000 + 2), sti, .rows 5 [i.row])] := by
 refine CallS.enterK verify_effect_1_ok (Nat.le_of_ble_eq_true rfl) fun Q hQ => Run.go 100 ?_
 simp -implicitDefEqProofs only [go_sem, Ins.v, Ins.row, initSl]
 subst hQ
 exact .is ⟨rfl, rfl⟩
theorem index_sl (i : Ins) (m : List Int) (hl : m.length ≤ 1000000) (st sti n : Nat) :
  CallS Tryz.prog 107 [.sl (39 * 10000 + 5) st 0 m.length, .fn 129 [.ptr (115 * 10000 + 2) sti 0 0]] [((39 * 10000 + 5), st, .rows 1 (m.map zrw)), ((115 * 10000 + 2), sti, .rows 5 [i.row])] n
   fun r h' n' => (∃ z : Int, r = .int .i64 z ∧ (z = -1 ∧ (m.any fun x => decide (i.a ≤ x)) = false ∨ ∃ k : Nat, z = k ∧ k < m.length ∧ ((m.take k).any fun x => decide (i.a ≤ x)) = false ∧ ∀ x, m[k]? = some x → i.a ≤ x)) ∧ h' = [((39 * 10000 + 5), st, .rows 1 (m.map zrw)), ((115 * 10000 + 2), sti, .rows 5 [i.row])] := by
 have la : (m.map zrw).length = m.length := List.length_map ..
 have za := rowszZ' m
 have ra : ∀ (k : Nat) x, m[k]? = some x → (m.map zrw)[k]? = some [.int .i64 x] := fun k x hk => by rw [List.getElem?_map, hk]; rfl
 have hg : hasBody Tryz.prog 129 = true := by kernel_rfl
 generalize m.map zrw = A at *
 refine CallS.enterK slices_IndexFunc_int_int_ok (Nat.le_of_ble_eq_true rfl) fun Q hQ => Run.go 100 ?_
 simp -implicitDefEqProofs only [go_sem, Ins.v, Ins.row, initSl, la]
 refine Run.roundsK (fun (x : Nat × Nat) => ⟨[(8, .int .i64 x.1), (7, .int .i64 m.length), (1, .fn 129 [.ptr (115 * 10000 + 2) sti 0 0]), (0, .sl (39 * 10000 + 5) st 0 m.length)], [((39 * 10000 + 5), st, .rows 1 A), ((115 * 10000 + 2), sti, .rows 5 [i.row])], x.2⟩) (fun x => x.1 ≤ m.length ∧ ((m.take x.1).any fun x => decide (i.a ≤ x)) = false) (fun x => m.length - x.1) (0, n) (Weak.wk ⟨slotsW_iff.1 (by simp -implicitDefEqProofs only [go_sem, Ins.v, Ins.row]), fun _ h => h, Nat.le_refl _⟩) ⟨Nat.zero_le _, rfl⟩ ?_
 rintro ⟨k, n1⟩ ⟨hk, hno⟩ ih
 simp only at hk hno ih ⊢
 refine Run.unf slices_IndexFunc_int_int_l0_eq (Run.go 100 ?_)
 by_cases hlt : k < m.length
 ·have q0 : ((k : Int) < (m.length : Int)) = True := eq_true (by omega)
  have q1 : ((0 : Int) ≤ (k : Int)) = True := eq_true (by omega)
  obtain ⟨x, hx⟩ : ∃ x, m[k]? = some x := ⟨m[k], by simp [hlt]⟩
  have hxr := ra k x hx
  have hc := above_call i x (.rows 1 A) st sti
  have hzk : ((k + 1 : Nat) : Int) = (k : Int) + 1 := by omega
  simp only [Ins.row] at hc
  simp -implicitDefEqProofs only [go_sem, Ins.v, Ins.row, q0, q1, la, za, hxr, hg, hlt, Option.some.injEq, forall_eq']
  refine ⟨hg, ?_⟩
  refine (hc n1).mono ?_
  rintro r h' n' ⟨rfl, rfl⟩
  by_cases hfx : i.a ≤ x
  ·simp -implicitDefEqProofs only [go_sem, Ins.v, Ins.row, hfx]
   subst hQ
   exact .is ⟨⟨k, rfl, .inr ⟨k, rfl, hlt, hno, fun y hy => by rw [hx] at hy; injection hy with hy; subst hy; exact hfx⟩⟩, rfl⟩
  ·simp -implicitDefEqProofs only [go_sem, Ins.v, Ins.row, hfx]
   refine ⟨by omega, ?_⟩
   exact ih _ (k + 1, n') ⟨by simp only; omega, any_next hno hx (by simpa using hfx)⟩ (by simp only; omega) (Weak.wk ⟨slotsW_iff.1 (by simp -implicitDefEqProofs only [go_sem, Ins.v, Ins.row, hzk]), fun _ h => h, Nat.le_refl _⟩)
 ·have e : k = m.length := by omega
  subst e
  simp -implicitDefEqProofs only [go_sem, Ins.v, Ins.row, Int.lt_irrefl]
  subst hQ
  exact .is ⟨⟨-1, rfl, .inl ⟨rfl, any_all hno⟩⟩, rfl⟩
theorem filt_none {m : List Int} {a : Int} (h : (m.any fun x => decide (a ≤ x)) = false) : (m.filter fun r => decide (r < a)) = m := by
 refine List.filter_eq_self.2 fun x hx => ?_
 have := List.any_eq_false.1 h x hx
 simp only [decide_eq_true_eq] at this ⊢
 omega
theorem zrow_set (T : List Int) (k : Nat) (v : Int) : (T.map zrw).set k [.int .i64 v] = (T.set k v).map zrw := by rw [List.map_set]; rfl
theorem take_setn {T : List Int} {k : Nat} {v : Int} (h : k < T.length) : (T.set k v).take (k + 1) = T.take k ++ [v] := by
 rw [List.take_add_one, List.take_set_of_le (Nat.le_refl _), List.getElem?_set]
 simp [h]
theorem delete_call (i : Ins) (m : List Int) (hl : m.length ≤ 1000000) (st sti n : Nat) :
  CallS Tryz.prog 128 [.sl (39 * 10000 + 5) st 0 m.length, .fn 129 [.ptr (115 * 10000 + 2) sti 0 0]] [((39 * 10000 + 5), st, .rows 1 (m.map zrw)), ((115 * 10000 + 2), sti, .rows 5 [i.row])] n
   fun r h' n' => r = .sl (39 * 10000 + 5) st 0 (m.filter fun r => decide (r < i.a)).length ∧ h' = [((39 * 10000 + 5), st, .rows 1 ((m.filter fun r => decide (r < i.a)).map zrw)), ((115 * 10000 + 2), sti, .rows 5 [i.row])] := by
 refine CallS.enterK slices_DeleteFunc_int_int_ok (Nat.le_of_ble_eq_true rfl) fun Q hQ => Run.go 100 ?_
 simp -implicitDefEqProofs only [go_sem, Ins.v, Ins.row, initSl]
 have hix := index_sl i m hl st sti n
 simp only [Ins.row] at hix
 refine hix.mono ?_
 rintro r h' n1 ⟨⟨z, rfl, hz⟩, rfl⟩
 rcases hz with ⟨rfl, hz⟩ | ⟨k, rfl, hk, hno, hx⟩
 ·simp -implicitDefEqProofs only [go_sem, Ins.v, Ins.row]
  rw [filt_none hz] at hQ
  subst hQ
  exact .is ⟨rfl, rfl⟩
 have hk1 : ((k : Int) = -1) = False := eq_false (by omega)
 simp -implicitDefEqProofs only [go_sem, Ins.v, Ins.row, hk1]
 refine ⟨by omega, ?_⟩
 have hp : ∀ x, (fun r => decide (r < i.a)) x = !decide (i.a ≤ x) := fun x => by
  by_cases c : i.a ≤ x
  ·have : ¬ x < i.a := by omega
   simp [c, this]
  ·have : x < i.a := by omega
   simp [c, this]
 have hfk : (m.take (k + 1)).filter (fun r => decide (r < i.a)) = m.take k := by
  obtain ⟨x, hxk⟩ : ∃ x, m[k]? = some x := ⟨m[k], by simp [hk]⟩
  have : ¬ x < i.a := by have := hx x hxk; omega
  rw [List.take_add_one, hxk, List.filter_append, filt_none hno]
  simp [this]
 have hlk : (m.take k).length = k := by rw [List.length_take]; omega
 refine Run.rounds (fun (x : Nat × List Int × Nat) => ⟨[(6, .int .i64 x.1), (5, .int .i64 ((m.take x.1).filter (fun r => decide (r < i.a))).length), (1, .fn 129 [.ptr (115 * 10000 + 2) sti 0 0]), (0, .sl (39 * 10000 + 5) st 0 m.length)], [((39 * 10000 + 5), st, .rows 1 (x.2.1.map zrw)), ((115 * 10000 + 2), sti, .rows 5 [i.row])], x.2.2⟩)
  (fun x => x.1 ≤ m.length ∧ x.2.1.length = m.length ∧ x.2.1.take ((m.take x.1).filter (fun r => decide (r < i.a))).length = (m.take x.1).filter (fun r => decide (r < i.a)) ∧ x.2.1.drop x.1 = m.drop x.1 ∧ ((m.take x.1).filter (fun r => decide (r < i.a))).length < x.1) (fun x => m.length - x.1) (k + 1, m, n1) ?_ ⟨by simp only; omega, rfl, by simp only; rw [hfk, hlk], rfl, by simp only; rw [hfk, hlk]; omega⟩ ?_
 ·have hz1 : ((k + 1 : Nat) : Int) = (k : Int) + 1 := by omega
  simp -implicitDefEqProofs only [go_sem, Ins.v, Ins.row, hz1, hfk, hlk]
 rintro ⟨j, T, n2⟩ ⟨hj, hT, ht, hd, hlt0⟩ ih
 simp only at hj hT ht hd hlt0 ih ⊢
 refine Run.unf slices_DeleteFunc_int_int_l0_eq (Run.go 100 ?_)
 have la : (T.map zrw).length = m.length := by rw [List.length_map, hT]
 have za := rowszZ' T
 have hg : hasBody Tryz.prog 129 = true := by kernel_rfl
 by_cases hlt : j < m.length
 ·have q0 : ((j : Int) < (m.length : Int)) = True := eq_true (by omega)
  have q1 : ((0 : Int) ≤ (j : Int)) = True := eq_true (by omega)
  obtain ⟨x, hxm⟩ : ∃ x, m[j]? = some x := ⟨m[j], by simp [hlt]⟩
  have hxT : T[j]? = some x := by
   have := congrArg (fun l => l[0]?) hd
   simp only [List.getElem?_drop, Nat.add_zero] at this
   rw [this, hxm]
  have hxr : (T.map zrw)[j]? = some [.int .i64 x] := by rw [List.getElem?_map, hxT]; rfl
  have hc := above_call i x (.rows 1 (T.map zrw)) st sti
  have hzj : ((j + 1 : Nat) : Int) = (j : Int) + 1 := by omega
  have hset := fun k v => zrow_set T k v
  have hst : T.drop (j + 1) = m.drop (j + 1) := by have := congrArg (List.drop 1) hd; simpa [List.drop_drop] using this
  have hat : ∀ q, q < m.length → ∃ y, T[q]? = some y := fun q hq => ⟨T[q], by simp [hT, hq]⟩
  have hfs : (m.take (j + 1)).filter (fun r => decide (r < i.a)) = if x < i.a then (m.take j).filter (fun r => decide (r < i.a)) ++ [x] else (m.take j).filter (fun r => decide (r < i.a)) := by
   rw [List.take_add_one, hxm, List.filter_append]
   by_cases c : x < i.a <;> simp [c]
  simp only [Ins.row] at hc
  have hgen : ∀ q y, T[q]? = some y → (T.map zrw)[q]? = some [V.int .i64 y] := fun q y hq => by rw [List.getElem?_map, hq]; rfl
  generalize hTA : T.map zrw = TA at *
  generalize hF : (m.take j).filter (fun r => decide (r < i.a)) = F at *
  simp -implicitDefEqProofs only [go_sem, Ins.v, Ins.row, q0, q1, la, za, hxr, hg, hlt, Option.some.injEq, forall_eq']
  refine ⟨hg, (hc n2).mono ?_⟩
  rintro r h' n' ⟨rfl, rfl⟩
  by_cases hfx : i.a ≤ x
  ·have hfs' : (m.take (j + 1)).filter (fun r => decide (r < i.a)) = F := by rw [hfs, if_neg (by omega)]
   simp -implicitDefEqProofs only [go_sem, Ins.v, Ins.row, hfx]
   refine ⟨by omega, ih _ (j + 1, T, n') ⟨by simp only; omega, hT, ?_, hst, ?_⟩ (by simp only; omega) ?_⟩
   ·simp only; rw [hfs', ht]
   ·simp only; rw [hfs']; omega
   ·simp -implicitDefEqProofs only [go_sem, Ins.v, Ins.row, hfs', hzj, hTA]
  ·have hfs' : (m.take (j + 1)).filter (fun r => decide (r < i.a)) = F ++ [x] := by rw [hfs, if_pos (by omega)]
   have p0 : ((0 : Int) ≤ (F.length : Int)) = True := eq_true (by omega)
   have p1 : ((F.length : Int) < (m.length : Int)) = True := eq_true (by omega)
   have p2 : (F.length < m.length) = True := eq_true (by omega)
   obtain ⟨y, hy⟩ := hat F.length (by omega)
   have hyr := hgen _ _ hy
   have hzl : ((F ++ [x]).length : Int) = (F.length : Int) + 1 := by simp
   simp -implicitDefEqProofs only [go_sem, Ins.v, Ins.row, hfx, p0, p1, p2, la, za, hyr, hset, Option.some.injEq, forall_eq']
   refine ⟨by omega, by omega, ih _ (j + 1, T.set F.length x, n') ⟨by simp only; omega, by simp only; rw [List.length_set, hT], ?_, ?_, ?_⟩ (by simp only; omega) ?_⟩
   ·simp only; rw [hfs', List.length_append, List.length_singleton, take_setn (by omega), ht]
   ·simp only; rw [List.drop_set_of_lt (by omega)]; exact hst
   ·simp only; rw [hfs', List.length_append, List.length_singleton]; omega
   ·simp -implicitDefEqProofs only [go_sem, Ins.v, Ins.row, hfs', hzj, hzl]
    omega
 ·have e : j = m.length := by omega
  subst e
  rw [List.take_length] at *
  generalize hF : m.filter (fun r => decide (r < i.a)) = F at *
  have p0 : ((0 : Int) ≤ (F.length : Int)) = True := eq_true (by omega)
  have e1 : ((m.length : Int) - (F.length : Int)).toNat = m.length - F.length := by omega
  have e2 : ((F.length : Int) - 0).toNat = F.length := by omega
  have e3 : (T.map zrw).take F.length = F.map zrw := by rw [← List.map_take, ht]
  simp -implicitDefEqProofs only [go_sem, Ins.v, Ins.row, Int.lt_irrefl, la, p0]
  rw [e1, e2, e3]
  refine ⟨by omega, by omega, by omega, by omega, ?_⟩
  subst hQ
  refine .to ⟨rfl, rfl⟩ (.turn id ⟨.refl _, trivial⟩ (.at 0 rfl rfl ?_ (.at 1 rfl rfl (.refl _) trivial)))
  have : F.map zrw = (F.map zrw ++ List.replicate (m.length - F.length) [V.int .i64 0] ++ List.drop (F.length + (m.length - F.length)) (T.map zrw)).take F.length := by
   rw [List.append_assoc, List.take_append_of_le_length (by simp), List.take_of_length_le (by simp)]
  have h2 := SameB.take (sz := 1) (rs := F.map zrw ++ List.replicate (m.length - F.length) [V.int .i64 0] ++ List.drop (F.length + (m.length - F.length)) (T.map zrw)) F.length
  rw [← this] at h2
  exact h2
theorem span_neg (a n : Int) (hn : n < 0) (h : Heap) (m : Nat) : CallS Tryz.prog 95 [.int .i64 a, .int .i64 n] h m fun r h' n' => r = .tup [.nils, .int .i64 a] ∧ h' = h := by
 refine CallS.enterK opcode_span_ok (Nat.le_of_ble_eq_true rfl) fun Q hQ => Run.go 100 ?_
 simp -implicitDefEqProofs only [go_sem, Ins.v, Ins.row, initSl, hn]
 subst hQ
 exact .is ⟨rfl, rfl⟩
theorem nilRowT (b n : Nat) (z : V) (h : Heap) : Wk ⟨[(0, .tup [.nils, z])], h, n⟩ ⟨[(0, .tup [.sl b n 0 0, z])], [(b, n, .rows 1 [])], n + 1⟩ := by
 have w1 : Wk ⟨[(0, .tup [.nils, z])], h, n⟩ ⟨[(0, .tup [.nils, z])], [], n⟩ := Weak.wk ⟨fun p hp => by rw [List.mem_singleton.1 hp]; rfl, fun e he => (List.not_mem_nil he).elim, Nat.le_refl _⟩
 have w2 : Wk ⟨[(0, .tup [.nils, z])], [], n⟩ ⟨[(0, .tup [.sl b n 0 0, z])], [(b, n, .rows 1 [])], n + 1⟩ :=
  (Wk.fresh b 1 _ _ _).trans (.turn id ⟨.tup ⟨.nils, .refl _, trivial⟩, trivial⟩ (.at 0 rfl rfl (.refl _) trivial))
 exact w1.trans w2
theorem rds_open {i : Ins} (h : 0 ≤ (rds i).2 ∨ i.op = 22) : (i.op = 22 ∧ rds i = ([], -1)) ∨ ((i.op = 16 ∨ i.op = 17 ∨ i.op = 21) ∧ i.b < 0 ∧ rds i = ([i.a], i.a + 1)) ∨ (i.op = 18 ∧ i.b < 0 ∧ rds i = ([], i.a)) := by
 by_cases c1 : i.op = 22
 ·left; exact ⟨c1, by simp [rds, c1]⟩
 have h := h.resolve_right c1
 by_cases c2 : i.op = 16 ∨ i.op = 17 ∨ i.op = 21
 ·have e : rds i = (i.a :: (spanP (i.a + 1) i.b).1, (spanP (i.a + 1) i.b).2) := by rcases c2 with c | c | c <;> simp [rds, c]
  rw [e] at h ⊢
  simp only [spanP_snd] at h
  by_cases c3 : i.b < 0
  ·right; left; exact ⟨c2, c3, by rw [spanP_neg c3]⟩
  ·rw [if_neg c3] at h; omega
 by_cases c3 : i.op = 18
 ·have e : rds i = spanP i.a i.b := by simp [rds, c3]
  rw [e, spanP_snd] at h
  by_cases c4 : i.b < 0
  ·right; right; exact ⟨c3, c4, by rw [e, spanP_neg c4]⟩
  ·rw [if_neg c4] at h; omega
 exfalso
 revert h
 unfold rds
 repeat' split
 all_goals first
  | (simp only [spanP_snd]; split <;> omega)
  | (intro h; simp at h; done)
  | contradiction
theorem reads_own (i : Ins) (h : 0 ≤ (reads i).2 ∨ i.op = 22) (n : Nat) : CallS Tryz.prog 67 [i.v] [] n fun r h' n' => ∃ st, r = .tup [.sl (67 * 10000 + 60) st 0 (reads i).1.length, .int .i64 (reads i).2] ∧ h' = [((67 * 10000 + 60), st, .rows 1 ((reads i).1.map zrw))] := by
 refine CallS.enterK opcode_Reads_ok (Nat.le_of_ble_eq_true rfl) fun Q hQ => Run.go 100 ?_
 simp -implicitDefEqProofs only [go_sem, Ins.v, Ins.row, initSl]
 refine CallS.pureF (check_pure i) (by simp -implicitDefEqProofs only [go_sem, Ins.v, Ins.row]) ?_
 by_cases hc : chk i = 0
 rotate_left
 ·have e : reads i = ([], -1) := if_neg hc
  rw [e] at hQ
  simp -implicitDefEqProofs only [go_sem, Ins.v, Ins.row, hc]
  subst hQ
  exact .to ⟨_, rfl, rfl⟩ (nilRowT _ _ _ _)
 have e : reads i = rds i := if_pos hc
 rw [e] at h hQ
 have h0 := chk_ok hc
 rw [hc]
 rcases rds_open h with ⟨h1, h2⟩ | ⟨h1, h3, h2⟩ | ⟨h1, h3, h2⟩
 ·rw [h2] at hQ
  simp -implicitDefEqProofs only [go_sem, Ins.v, Ins.row, h1]
  subst hQ
  exact .to ⟨_, rfl, rfl⟩ (nilRowT _ _ _ _)
 ·rw [h2] at hQ
  rcases h1 with h1 | h1 | h1 <;>
  ·simp -implicitDefEqProofs only [go_sem, Ins.v, Ins.row, h1]
   refine ⟨by omega, (span_neg _ _ h3 _ _).mono ?_⟩
   rintro r h' n' ⟨rfl, rfl⟩
   simp -implicitDefEqProofs only [go_sem, Ins.v, Ins.row]
   subst hQ
   refine .to ⟨_, rfl, rfl⟩ (.turn (fun _ => (67 * 10000 + 60)) ⟨.refl _, trivial⟩ (.at 0 rfl rfl (.refl _) trivial))
 ·rw [h2] at hQ
  simp -implicitDefEqProofs only [go_sem, Ins.v, Ins.row, h1]
  refine (span_neg _ _ h3 _ _).mono ?_
  rintro r h' n' ⟨rfl, rfl⟩
  simp -implicitDefEqProofs only [go_sem, Ins.v, Ins.row]
  subst hQ
  exact .to ⟨_, rfl, rfl⟩ (nilRowT _ _ _ _)
-- EV: Ins.v, Ins.row
structure Fit (N : Nat) (i : Ins) : Prop where
 ok : chk i = 0
 ws : ∀ r ∈ (writes i).1, 0 ≤ r ∧ r < N
 wo : (writes i).2 ≤ N
def seqL : AC → AC
 | .seq a _ => a
 | c => c
def seqR : AC → AC
 | .seq _ b => b
 | c => c
@[reducible] noncomputable def effC (Q : Res) : Cf := ⟨Tryz.prog, 75, [.c 4 3 true], Post Q, none⟩
def effT (i : Ins) (N : Nat) (f : Nat → Bool) (m : List Int) (a2 a4 a5 st st2 n : Nat) : St :=
 ⟨[(5, .ptr (115 * 10000 + 5) a5 0 0), (4, .ptr (115 * 10000 + 4) a4 0 0), (2, .ptr (115 * 10000 + 2) a2 0 0)],
  [((115 * 10000 + 5), a5, .rows 3 [[.sl (126 * 10000 + 5) st 0 N, .int .i64 (-1), .sl (39 * 10000 + 5) st2 0 m.length]]), ((39 * 10000 + 5), st2, .rows 1 (m.map zrw)), ((126 * 10000 + 5), st, .rows 1 (boolR N f)), ((115 * 10000 + 4), a4, .rows 3 [[.nils, .int .i64 0, .nils]]), ((115 * 10000 + 2), a2, .rows 5 [i.row])], n⟩
theorem effect_head (N : Nat) (i : Ins) (f : Nat → Bool) (o : Int) (m : List Int) (hN : N ≤ 100000) (hm : m.length ≤ 1000000) (n : Nat) (REST : AC) (Q : Res)
  (key : ∀ a2 a4 a5 st st2 n, Run (effC Q) [.code REST] (effT i N f m a2 a4 a5 st st2 n)) :
  Run (effC Q) [.code (.seq (seqL verify_effect_c) (.seq (seqL (seqR verify_effect_c)) REST))] ⟨initSl 0 [i.v, .agg [.isl (boolR N f), .int .i64 o, .isl (m.map zrw)]], [], n⟩ := by
 have hsb := boolR_sub lost N f
 have hsz := zrw_sub lost m
 have cB := fun n => cloneB N f (by omega) n
 have cI := fun n => cloneI m (by omega) n
 refine Run.go 4 ?_
 simp -implicitDefEqProofs only [go_sem, Ins.v, Ins.row, initSl, seqL, seqR]
 repeat' refine And.intro ?_ ?_
 all_goals
  refine CallS.at [] [0, 1, 2, 3] (cB _) rfl rfl ?_
  rintro r h' n1 hn1 ⟨st, rfl, rfl⟩
  simp -implicitDefEqProofs only [go_sem, Ins.v, Ins.row]
  refine CallS.at [] [0, 1, 2, 3, 4] (cI _) rfl rfl ?_
  rintro r h' n2 hn2 ⟨st2, rfl, rfl⟩
  simp -implicitDefEqProofs only [go_sem, Ins.v, Ins.row]
 all_goals first
  | (refine Run.wk (Weak.wk ?_) (key n (n + 1 + 1) n2 st st2 (n2 + 1)); simp -implicitDefEqProofs only [go_sem, Ins.v, Ins.row, effT]; done)
  | (refine Run.wk (Weak.wk ?_) (key n (n + 1 + 1) n1 st st2 n2); simp -implicitDefEqProofs only [go_sem, Ins.v, Ins.row, effT]; done)
  | (refine Run.wk (Weak.wk ?_) (key n (n + 1 + 1) (n + 1 + 1 + 1) st st2 n2); simp -implicitDefEqProofs only [go_sem, Ins.v, Ins.row, effT]; done)
theorem effect_mid (N : Nat) (i : Ins) (f : Nat → Bool) (m : List Int) (hi : Fit N i) (hN : N ≤ 100000) (hm : m.length ≤ 1000000) (REST : AC) (Q : Res)
  (key : ∀ a2 a4 a5 st st2 n, Run (effC Q) [.code REST] (effT i N (effS i f) (effM i m) a2 a4 a5 st st2 n)) (a2 a4 a5 st st2 n : Nat) :
  Run (effC Q) [.code (.seq (seqL (seqR (seqR verify_effect_c))) REST)] (effT i N f m a2 a4 a5 st st2 n) := by
 obtain ⟨b1, b2, b3, b4, b5, b6, b7, b8, b9, ba⟩ := chk_ok hi.ok
 unfold effT
 have hI : i.row = [.int .i64 i.op, .int .i64 i.a, .int .i64 i.b, .int .i64 i.c, .int .i64 i.d] := rfl
 have la : (m.map zrw).length = m.length := List.length_map ..
 have za := rowszZ' m
 generalize hM : m.map zrw = M at *
 by_cases c1 : i.op = 16
 ·have e1 : effS i f = fun r => f r && decide ((r : Int) < i.a) := if_pos c1
  have e2 : effM i m = m := by simp [effM, c1]
  rw [e1, e2] at key
  refine Run.go 9 ?_
  simp -implicitDefEqProofs only [go_sem, Ins.v, Ins.row, seqL, seqR, c1]
  refine CallS.at [2] [0, 1, 3, 4] (unset_call N f i.a (by omega) (by omega) (by omega) st n) rfl rfl ?_
  rintro r h' n' hn rfl
  simp -implicitDefEqProofs only [go_sem, Ins.v, Ins.row]
  refine Run.wk (Weak.wk ?_) (key a2 a4 a5 st st2 n')
  simp -implicitDefEqProofs only [go_sem, Ins.v, Ins.row, effT, hM, c1]
 by_cases c2 : i.op = 25
 ·have e1 : effS i f = fun r => f r && decide ((r : Int) < i.a + 3) := by rw [effS, if_neg c1, if_pos c2]
  have e2 : effM i m = m := by simp [effM, c2]
  rw [e1, e2] at key
  refine Run.go 12 ?_
  simp -implicitDefEqProofs only [go_sem, Ins.v, Ins.row, seqL, seqR, c2]
  refine ⟨by omega, ?_⟩
  refine CallS.at [2] [0, 1, 3, 4] (unset_call N f (i.a + 3) (by omega) (by omega) (by omega) st n) rfl rfl ?_
  rintro r h' n' hn rfl
  simp -implicitDefEqProofs only [go_sem, Ins.v, Ins.row]
  refine Run.wk (Weak.wk ?_) (key a2 a4 a5 st st2 n')
  simp -implicitDefEqProofs only [go_sem, Ins.v, Ins.row, effT, hM, c2]
 have e1 : effS i f = f := by rw [effS, if_neg c1, if_neg c2]
 rw [e1] at key
 by_cases c3 : i.op = 28
 ·have e2 : effM i m = m ++ [i.a] := if_pos c3
  rw [e2] at key
  refine Run.go 15 ?_
  simp -implicitDefEqProofs only [go_sem, Ins.v, Ins.row, seqL, seqR, c3, la, za]
  have g1 : (m ++ [i.a]).map zrw = M ++ [[.int .i64 i.a]] := by rw [List.map_append, hM]; rfl
  have g2 : (m ++ [i.a]).length = m.length + 1 := by simp
  have g3 : M.take m.length = M := List.take_of_length_le (by omega)
  refine ⟨by omega, Run.wk (Weak.wk ?_) (key a2 a4 a5 st n (n + 1))⟩
  simp -implicitDefEqProofs only [go_sem, Ins.v, Ins.row, effT, g1, g2, g3, c3]
 by_cases c4 : i.op = 27
 ·have e2 : effM i m = m.filter fun r => decide (r < i.a) := by rw [effM, if_neg c3, if_pos c4]
  rw [e2] at key
  refine Run.go 18 ?_
  simp -implicitDefEqProofs only [go_sem, Ins.v, Ins.row, seqL, seqR, c4, la, za]
  have hd := delete_call i m hm st2 a2 n
  rw [hM] at hd
  simp only [hI, c4] at hd
  refine CallS.at [1, 4] [0, 2, 3] hd rfl rfl ?_
  rintro r h' n' hn ⟨rfl, rfl⟩
  simp -implicitDefEqProofs only [go_sem, Ins.v, Ins.row]
  refine Run.wk (Weak.wk ?_) (key a2 a4 a5 st st2 n')
  simp -implicitDefEqProofs only [go_sem, Ins.v, Ins.row, effT, c4]
 have e2 : effM i m = m := by rw [effM, if_neg c3, if_neg c4]
 rw [e2] at key
 refine Run.go 18 ?_
 simp -implicitDefEqProofs only [go_sem, Ins.v, Ins.row, seqL, seqR, c1, c2, c3, c4]
 refine Run.wk (Weak.wk ?_) (key a2 a4 a5 st st2 n)
 simp -implicitDefEqProofs only [go_sem, Ins.v, Ins.row, effT, hM]
theorem effect_tail (N : Nat) (i : Ins) (f : Nat → Bool) (m : List Int) (hi : Fit N i) (hN : N ≤ 100000) (Q : Res)
  (hQ : Q = fun r h' n' => ∃ st st2,
    r = .agg [.sl (126 * 10000 + 5) st 0 N, .int .i64 (writes i).2, .sl (39 * 10000 + 5) st2 0 m.length] ∧
    h' = [((126 * 10000 + 5), st, .rows 1 (boolR N (effW N (writes i) f))), ((39 * 10000 + 5), st2, .rows 1 (m.map zrw))]) (a2 a4 a5 st st2 n : Nat) :
  Run (effC Q) [.code (seqR (seqR (seqR verify_effect_c)))] (effT i N f m a2 a4 a5 st st2 n) := by
 have hw := writes_pure i
 obtain ⟨hok, hws, hwo⟩ := hi
 have hwi := writes_in i
 have hal : (writes i).1.length ≤ 1000000 := writes_len i
 unfold effT
 generalize m.map zrw = M at *
 generalize writes i = w at *
 obtain ⟨ws, wo⟩ := w
 simp only at hws hwo hwi hal hQ
 have lw : (ws.map zrw).length = ws.length := List.length_map ..
 have zw := rowszZ' ws
 have aw : ∀ (k : Nat) x, ws[k]? = some x → (ws.map zrw)[k]? = some [.int .i64 x] := fun k x hk => zrw_at hk
 generalize ws.map zrw = WS at *
 simp only [Ins.v, Ins.row] at hw
 refine Run.go 100 ?_
 simp -implicitDefEqProofs only [go_sem, Ins.v, Ins.row, seqR]
 refine CallS.pureF hw (by simp -implicitDefEqProofs only [go_sem, Ins.v, Ins.row]) ?_
 simp -implicitDefEqProofs only [go_sem, Ins.v, Ins.row, lw]
 refine Run.keep [57, 56, 55, 7, 5, 4, 2] ?_
 refine Run.rounds (fun (k : Nat) => ⟨[(57, .int .i64 k), (56, .int .i64 ws.length), (55, .isl WS), (7, .int .i64 wo), (5, .ptr (115 * 10000 + 5) a5 0 0), (4, .ptr (115 * 10000 + 4) a4 0 0), (2, .ptr (115 * 10000 + 2) a2 0 0)],
   [((115 * 10000 + 5), a5, .rows 3 [[.sl (126 * 10000 + 5) st 0 N, .int .i64 (-1), .sl (39 * 10000 + 5) st2 0 m.length]]), ((39 * 10000 + 5), st2, .rows 1 M), ((126 * 10000 + 5), st, .rows 1 (boolR N fun r => f r || (ws.take k).contains (r : Int))), ((115 * 10000 + 4), a4, .rows 3 [[.nils, .int .i64 0, .nils]]), ((115 * 10000 + 2), a2, .rows 5 [i.row])], n⟩)
  (fun k => k ≤ ws.length) (fun k => ws.length - k) 0 ?_ (Nat.zero_le _) ?_
 ·simp -implicitDefEqProofs only [go_sem, Ins.v, Ins.row]
  exact boolR_congr fun r hr => by simp
 intro k hk ih
 refine Run.unf verify_effect_l0_eq (Run.go 100 ?_)
 have hlen := boolR_len N fun r => f r || (ws.take k).contains (r : Int)
 have hz' := boolR_sz N fun r => f r || (ws.take k).contains (r : Int)
 by_cases hlt : k < ws.length
 ·have q0 : ((k : Int) < (ws.length : Int)) = True := eq_true (by omega)
  have q1 : ((0 : Int) ≤ (k : Int)) = True := eq_true (by omega)
  obtain ⟨x, hx⟩ : ∃ x, ws[k]? = some x := ⟨ws[k], by simp [hlt]⟩
  have hxr := aw k x hx
  have hxb := hws x (List.mem_of_getElem? hx)
  obtain ⟨X, rfl⟩ : ∃ X : Nat, x = X := ⟨x.toNat, by omega⟩
  have hXN : X < N := by omega
  have q2 : ((0 : Int) ≤ (X : Int)) = True := eq_true (by omega)
  have q3 : ((X : Int) < (N : Int)) = True := eq_true (by omega)
  have hat := boolR_at (f := fun r => f r || (ws.take k).contains (r : Int)) hXN
  have hset := boolR_set (N := N) (r := X) (b := true) (f := fun r => f r || (ws.take k).contains (r : Int)) (fun r => f r || (ws.take (k + 1)).contains (r : Int)) (fun y hy => by
   rw [List.take_add_one, hx]
   by_cases c : y = X
   ·subst c; simp
   ·have : ¬ (y : Int) = (X : Int) := by omega
    rw [if_neg c]; simp [this])
  have hzk : ((k + 1 : Nat) : Int) = (k : Int) + 1 := by omega
  generalize (boolR N fun r => f r || (ws.take k).contains (r : Int)) = es at *
  simp -implicitDefEqProofs only [go_sem, Ins.v, Ins.row, q0, q1, q2, q3, lw, zw, hxr, hlen, hz', hat, hlt, hXN, Option.some.injEq, forall_eq']
  exact ⟨by omega, ih _ (k + 1) (by omega) (by omega) (by simp -implicitDefEqProofs only [go_sem, Ins.v, Ins.row, hzk, hset])⟩
 ·have e : k = ws.length := by omega
  subst e
  rw [List.take_length] at *
  by_cases c : 0 ≤ wo
  ·have hfin : (boolR N fun r => (f r || ws.contains (r : Int)) && decide ((r : Int) < wo)) = boolR N (effW N (ws, wo) f) := boolR_congr fun r hr => by
    have e1 : decide (wo < 0) = false := decide_eq_false (by omega)
    simp [effW, hr, e1]
   have hu := unset_call N (fun r => f r || ws.contains (r : Int)) wo c (by omega) (by omega) st n
   rw [hfin] at hu
   generalize (boolR N fun r => f r || ws.contains (r : Int)) = es at *
   simp -implicitDefEqProofs only [go_sem, Ins.v, Ins.row, Int.lt_irrefl, c, ge_iff_le]
   refine CallS.at [2] [0, 1, 3, 4] hu rfl rfl ?_
   rintro r h' n' hn rfl
   simp -implicitDefEqProofs only [go_sem, Ins.v, Ins.row]
   subst hQ
   exact .to ⟨st, st2, rfl, rfl⟩ (.turn id ⟨.refl _, trivial⟩ (.at 2 rfl rfl (.refl _) (.at 3 rfl rfl (.refl _) trivial)))
  ·have hfin : (boolR N fun r => f r || ws.contains (r : Int)) = boolR N (effW N (ws, wo) f) := boolR_congr fun r hr => by
    have e1 : decide (wo < 0) = true := decide_eq_true (by omega)
    simp [effW, hr, e1]
   rw [hfin]
   have e : wo = -1 := by omega
   generalize boolR N (effW N (ws, wo) f) = es at *
   subst e
   simp -implicitDefEqProofs only [go_sem, Ins.v, Ins.row, Int.lt_irrefl, c, ge_iff_le]
   subst hQ
   exact .to ⟨st, st2, rfl, rfl⟩ (.turn id ⟨.refl _, trivial⟩ (.at 3 rfl rfl (.refl _) (.at 2 rfl rfl (.refl _) trivial)))
theorem effect_call (N : Nat) (i : Ins) (s : Stt) (hN : N ≤ 100000) (hi : Fit N i) (hm : s.marks.length ≤ 1000000) (n : Nat) :
  CallS Tryz.prog 115 [i.v, .agg [.isl (boolR N s.set), .int .i64 s.opn, .isl (s.marks.map zrw)]] [] n fun r h' n' => ∃ st st2,
   r = .agg [.sl (126 * 10000 + 5) st 0 N, .int .i64 (writes i).2, .sl (39 * 10000 + 5) st2 0 (effM i s.marks).length] ∧
   h' = [((126 * 10000 + 5), st, .rows 1 (boolR N (effF N i s).set)), ((39 * 10000 + 5), st2, .rows 1 ((effM i s.marks).map zrw))] := by
 refine CallS.enterK verify_effect_ok (Nat.le_of_ble_eq_true rfl) fun Q hQ => ?_
 refine effect_head N i s.set s.opn s.marks hN hm n _ Q fun a2 a4 a5 st st2 n => ?_
 exact effect_mid N i s.set s.marks hi hN hm _ Q (effect_tail N i (effS i s.set) (effM i s.marks) hi hN Q hQ) a2 a4 a5 st st2 n
end Go.Proofs.YtfkfphpnijkdlaaGreatDoor
