/-
 What peephole.shells answers. No condition.
-/
import Derived.Test.YtoanghfeednogaaGreatDoorPeTR
import Derived.Test.YtoanghfeednogaaGreatDoorOpcM
import Derived.Test.YtoanghfeednogaaGreatDoorFnCk
import Derived.Test.YtoanghfeednogaaGreatDoorUtl
set_option linter.unusedVariables false
set_option linter.unusedSimpArgs false
set_option maxRecDepth 100000
set_option maxHeartbeats 0
namespace Go.Proofs.YtoanghfeednogaaGreatDoor
open Go.Abs
attribute [local irreducible] A2 Run
abbrev sN (k : Nat) : Nat := 36 * 10000 + k
-- EV: sN, Upv.row
attribute [local go_sem] sN Upv.row
def f8 (u : Upv) : Upv := { u with name := [], idx := max u.idx 0 }
def G8 (q : Fn) : Fn := ⟨[], 0, 0, false, 0, [⟨18, 0, 0, 0, 0⟩], [], [], [], (q.ups.take 60).map f8, []⟩
theorem A2t.snoc {st : Nat} {fs : List (List V)} {sz : Nat} {R : List (List V)} {r r2 : List V} (h : B0j st fs r r2) : A2t st fs (.rows sz (R ++ [r])) (.rows sz (R ++ [r2])) :=
 .rows (by simp) fun i x hx => by
  rcases Nat.lt_or_ge i R.length with hi | hi
  ·rw [List.getElem?_append_left hi] at hx
   exact ⟨x, by rw [List.getElem?_append_left hi]; exact hx, B0j.same x⟩
  ·rw [List.getElem?_append_right hi] at hx
   have : i - R.length = 0 := by
    have := (List.getElem?_eq_some_iff.1 hx).1
    simp at this; omega
   rw [this] at hx
   obtain rfl := Option.some.inj hx
   exact ⟨r, by rw [List.getElem?_append_right hi, this]; rfl, h⟩
theorem K1.snocL {sz : Nat} {R : List (List V)} {r r2 : List V} (h : A0a r r2) : K1 (.rows sz (R ++ [r])) (.rows sz (R ++ [r2])) :=
 .rows (by simp) fun i x hx => by
  rcases Nat.lt_or_ge i R.length with hi | hi
  ·rw [List.getElem?_append_left hi] at hx
   exact ⟨x, by rw [List.getElem?_append_left hi]; exact hx, A0a.refl x⟩
  ·rw [List.getElem?_append_right hi] at hx
   have : i - R.length = 0 := by
    have := (List.getElem?_eq_some_iff.1 hx).1
    simp at this; omega
   rw [this] at hx
   obtain rfl := Option.some.inj hx
   exact ⟨r, by rw [List.getElem?_append_right hi, this]; rfl, h⟩
theorem C1Q (q : Fn) : (G8 q).row = [.str [], .int .i64 0, .int .i64 0, .bool false, .int .i64 0, .isl [[.int .i64 18, .int .i64 0, .int .i64 0, .int .i64 0, .int .i64 0]], .isl [], .isl [], .isl [], .isl ((q.ups.take 60).map fun u => (f8 u).row), .isl []] := by
 rw [Fn.row_eq]; simp [G8, Ins.row]; rfl
theorem B7x (l : List Fn) (hl : l.length ≤ 100000) (hu : ∀ q ∈ l, q.ups.length ≤ 4398046510976) : Pure Tryz.prog 36 [.isl (l.map Fn.row)] (.isl ((l.map G8).map Fn.row)) := by
 have hlP : (l.map Fn.row).length = l.length := List.length_map ..
 have hzP : B6 (l.map Fn.row) 11 = True := eq_true (fun r hr => by obtain ⟨y, _, rfl⟩ := List.mem_map.1 hr; exact Fn.row_len y)
 have hrP : ∀ (k : Nat) x, l[k]? = some x → (l.map Fn.row)[k]? = some x.row := fun k x h => by rw [List.getElem?_map, h]; rfl
 generalize l.map Fn.row = PR at *
 refine Pure.of 0 (A2.enterK A1l (Nat.le_of_ble_eq_true rfl) fun Q hQ => Run.go 100 ?_)
 simp -implicitDefEqProofs only [go_sem, A5, hlP]
 refine Run.roundsK (fun (x : Nat × Nat × Nat) => ⟨[(11, .int .i64 x.1), (10, .int .i64 l.length), (9, .isl PR), (3, .sl (sN 48) x.2.1 0 x.1)], [(sN 48, x.2.1, .rows 11 (((l.take x.1).map G8).map Fn.row))], x.2.2⟩)
  (fun x => x.1 ≤ l.length) (fun x => l.length - x.1) (0, 0, 1) ?_ (Nat.zero_le _) ?_
 ·refine .trans (.fresh (sN 48) 11 _ _ _) (.turn id ⟨.refl _, .refl _, .refl _, .nils, trivial⟩ ?_)
  simp -implicitDefEqProofs only [go_sem, Nat.reduceDiv]
  exact .at 0 rfl rfl (.refl _) (.of fun e he => by cases he)
 rintro ⟨k, st, m⟩ hk ih
 dsimp only at hk ih ⊢
 refine Run.unf A5A (Run.go 100 ?_)
 by_cases c : (k : Int) < l.length
 ·obtain ⟨q, hq⟩ : ∃ q, l[k]? = some q := ⟨l[k]'(by omega), by simp⟩
  have hqr := hrP k q hq
  have hqu := hu q (List.mem_of_getElem? hq)
  have k0 : ((0 : Int) ≤ (k : Int)) = True := eq_true (by omega)
  have k1 : (k < l.length) = True := eq_true (by omega)
  rw [Fn.row_eq q] at hqr
  have hlU : (q.ups.map Upv.row).length = q.ups.length := List.length_map ..
  have hzU : B6 (q.ups.map Upv.row) 3 = True := eq_true fun r hr => by obtain ⟨y, _, rfl⟩ := List.mem_map.1 hr; rfl
  have hrU : ∀ (k : Nat) x, q.ups[k]? = some x → (q.ups.map Upv.row)[k]? = some x.row := fun k x h => by rw [List.getElem?_map, h]; rfl
  have e1 : l.take (k + 1) = l.take k ++ [q] := by rw [List.take_add_one, hq]; rfl
  have fin := fun s' st' m' => ih s' (k + 1, st', m') (by dsimp only; omega) (by dsimp only; omega)
  dsimp only at fin
  have e3 : ((l.take k ++ [q]).map G8).map Fn.row = ((l.take k).map G8).map Fn.row ++ [(G8 q).row] := by simp
  have hRl : (((l.take k).map G8).map Fn.row).length = k := by simp; omega
  rw [e1, e3, C1Q] at fin
  generalize hUR : q.ups.map Upv.row = UR at *
  generalize hRR : ((l.take k).map G8).map Fn.row = RR at *
  simp -implicitDefEqProofs only [go_sem, c, k0, k1, hlP, hzP, hqr, hlU, Nat.reduceDiv, Option.some.injEq, forall_eq']
  refine Run.roundsK (fun (y : Nat × Nat × Nat) => ⟨[(21, .int .i64 y.1), (20, .int .i64 q.ups.length), (19, .isl UR), (11, .int .i64 k), (10, .int .i64 l.length), (9, .isl PR), (6, .ptr (sN 6) (m + 1 + 1) 0 0), (3, .sl (sN 48) st 0 k)],
   [(sN 6, m + 1 + 1, .rows 11 [[.str [], .int .i64 0, .int .i64 0, .bool false, .int .i64 0, .sl (sN 16) (m + 1) 0 1, .nils, .nils, .nils, .sl (sN 34) y.2.1 0 y.1, .nils]]), (sN 34, y.2.1, .rows 3 ((q.ups.take y.1).map fun u => (f8 u).row)), (sN 16, m + 1, .rows 5 [[.int .i64 18, .int .i64 0, .int .i64 0, .int .i64 0, .int .i64 0]]), (sN 48, st, .rows 11 RR)], y.2.2⟩)
   (fun y => y.1 ≤ q.ups.length) (fun y => q.ups.length - y.1) (0, m + 1 + 1 + 1, m + 1 + 1 + 1 + 1) ?_ (Nat.zero_le _) ?_
  ·refine .trans (.fresh (sN 34) 3 _ _ _) (.turn id ⟨.refl _, .refl _, .refl _, .refl _, .refl _, .refl _, .refl _, .refl _, trivial⟩ ?_)
   simp -implicitDefEqProofs only [go_sem, Nat.reduceDiv]
   exact .at 1 rfl rfl (.row ⟨.refl _, .refl _, .refl _, .refl _, .refl _, .refl _, .refl _, .refl _, .refl _, .nils, .refl _, trivial⟩) (.at 0 rfl rfl (.refl _) (.at 2 rfl rfl (.refl _) (.at 4 rfl rfl (.refl _) (.of fun e he => by cases he))))
  generalize m + 1 + 1 = m6 at *
  generalize m + 1 = m16 at *
  rintro ⟨j, us, n⟩ hj ih2
  dsimp only at hj ih2 ⊢
  refine Run.unf A5B (Run.go 100 ?_)
  by_cases d : (j : Int) < q.ups.length
  ·obtain ⟨u, hju⟩ : ∃ u, q.ups[j]? = some u := ⟨q.ups[j]'(by omega), by simp⟩
   have hur := hrU j u hju
   have j0 : ((0 : Int) ≤ (j : Int)) = True := eq_true (by omega)
   have j1 : (j < q.ups.length) = True := eq_true (by omega)
   have e2 : q.ups.take (j + 1) = q.ups.take j ++ [u] := by rw [List.take_add_one, hju]; rfl
   have hlt : ((q.ups.take j).map fun u => (f8 u).row).length = j := by simp; omega
   have fin2 := fun s' us' n' => ih2 s' (j + 1, us', n') (by dsimp only; omega) (by dsimp only; omega)
   dsimp only at fin2
   rw [e2, List.map_append, List.map_cons, List.map_nil] at fin2
   generalize ((q.ups.take j).map fun u => (f8 u).row) = UT at *
   have htk : UT.take j = UT := List.take_of_length_le (by omega)
   have j2 : (j ≤ UT.length) = True := eq_true (by omega)
   have j3 : (j ≤ 4398046511103) = True := eq_true (by omega)
   simp -implicitDefEqProofs only [go_sem, d, j0, j1, j2, j3, hlU, hzU, hur, hlt, htk, Nat.reduceDiv, Option.some.injEq, forall_eq']
   have hmx : (if 0 > u.idx then 0 else u.idx) = max u.idx 0 := by rw [Int.max_def]; split <;> split <;> omega
   exact ⟨⟨by omega, by omega⟩, fin2 _ (n + 1) (n + 1 + 1) (.turn id ⟨.refl _, .refl _, .refl _, .refl _, .refl _, .refl _, .refl _, .refl _, trivial⟩ (.at 0 rfl rfl (.refl _) (.at 1 rfl rfl (.of_eq (by rw [hmx]; rfl)) (.at 3 rfl rfl (.refl _) (.at 4 rfl rfl (.refl _) (.of fun e he => by cases he))))))⟩
  ·obtain rfl : j = q.ups.length := by omega
   by_cases h60 : 60 < q.ups.length
   ·have c60 : (60 < (q.ups.length : Int)) = True := eq_true (by omega)
    have c61 : (k ≤ k) = True := eq_true (Nat.le_refl _)
    have c62 : (k ≤ 733007751849) = True := eq_true (by omega)
    have c63 : ((60 : Int) - 0).toNat = 60 := by decide
    have c64 : ((60 : Int) ≤ (q.ups.length : Int)) = True := eq_true (by omega)
    rw [List.map_take] at fin
    have htR : RR.take k = RR := List.take_of_length_le (by omega)
    rw [List.take_length]
    simp -implicitDefEqProofs only [go_sem, d, c60, hRl, c61, c62, c63, c64, htR, Nat.reduceDiv]
    refine ⟨⟨by omega, by omega⟩, fin _ n (n + 1) ?_⟩
    refine Wk.trans (b := ⟨[(11, .int .i64 ((k + 1 : Nat) : Int)), (10, .int .i64 l.length), (9, .isl PR), (3, .sl (sN 48) n 0 (k + 1))], [(sN 48, n, .rows 11 (RR ++ [[.str [], .int .i64 0, .int .i64 0, .bool false, .int .i64 0, .sl (sN 16) m16 0 1, .nils, .nils, .nils, .sl (sN 34) us 0 60, .nils]])), (sN 34, us, .rows 3 (q.ups.map fun u => (f8 u).row)), (sN 16, m16, .rows 5 [[.int .i64 18, .int .i64 0, .int .i64 0, .int .i64 0, .int .i64 0]])], n + 1⟩)
     (.turn id ⟨.refl _, .refl _, .refl _, .refl _, trivial⟩ (.at 0 rfl rfl (.refl _) (.at 2 rfl rfl (.refl _) (.at 3 rfl rfl (.refl _) (.of fun e he => by cases he))))) ?_
    refine Wk.trans (b := ⟨[(11, .int .i64 ((k + 1 : Nat) : Int)), (10, .int .i64 l.length), (9, .isl PR), (3, .sl (sN 48) n 0 (k + 1))], [(sN 48, n, .rows 11 (RR ++ [[.str [], .int .i64 0, .int .i64 0, .bool false, .int .i64 0, .isl [[.int .i64 18, .int .i64 0, .int .i64 0, .int .i64 0, .int .i64 0]], .nils, .nils, .nils, .sl (sN 34) us 0 60, .nils]])), (sN 34, us, .rows 3 (q.ups.map fun u => (f8 u).row))], n + 1⟩)
     (.freeze (b := sN 16) (st := m16) (sz := 5) (rs := [[.int .i64 18, .int .i64 0, .int .i64 0, .int .i64 0, .int .i64 0]]) (by simp) ⟨.of (.refl _), .of (.refl _), .of (.refl _), .of (.refl _), trivial⟩
       (.at 0 rfl (by decide) (A2t.snoc ⟨.of (.refl _), .of (.refl _), .of (.refl _), .of (.refl _), .of (.refl _), Frz.all rfl, .of (.refl _), .of (.refl _), .of (.refl _), .of (.refl _), .of (.refl _), trivial⟩) (.at 1 rfl (by decide) (.of (.refl _)) trivial))) ?_
    refine Wk.trans (b := ⟨[(11, .int .i64 ((k + 1 : Nat) : Int)), (10, .int .i64 l.length), (9, .isl PR), (3, .sl (sN 48) n 0 (k + 1))], [(sN 48, n, .rows 11 (RR ++ [[.str [], .int .i64 0, .int .i64 0, .bool false, .int .i64 0, .isl [[.int .i64 18, .int .i64 0, .int .i64 0, .int .i64 0, .int .i64 0]], .nils, .nils, .nils, .isl ((q.ups.map fun u => (f8 u).row).take 60), .nils]]))], n + 1⟩)
     (.freeze (b := sN 34) (st := us) (sz := 3) (rs := q.ups.map fun u => (f8 u).row) (by simp) ⟨.of (.refl _), .of (.refl _), .of (.refl _), .of (.refl _), trivial⟩
       (.at 0 rfl (by decide) (A2t.snoc ⟨.of (.refl _), .of (.refl _), .of (.refl _), .of (.refl _), .of (.refl _), .of (.refl _), .of (.refl _), .of (.refl _), .of (.refl _), (Frz.sl (i := 0) (m := 60) (by simp; omega) : _), .of (.refl _), trivial⟩) trivial)) ?_
    exact .turn id ⟨.refl _, .refl _, .refl _, .refl _, trivial⟩ (.at 0 rfl rfl (K1.snocL ⟨.refl _, .refl _, .refl _, .refl _, .refl _, .refl _, .nilI, .nilI, .nilI, .refl _, .nilI, trivial⟩) (.of fun e he => by cases he))
   ·have c60 : (60 < (q.ups.length : Int)) = False := eq_false (by omega)
    have c61 : (k ≤ k) = True := eq_true (Nat.le_refl _)
    have c62 : (k ≤ 733007751849) = True := eq_true (by omega)
    have c63 : ((q.ups.length : Int) - 0).toNat = q.ups.length := by omega
    rw [List.take_of_length_le (show q.ups.length ≤ 60 by omega)] at fin
    have htR : RR.take k = RR := List.take_of_length_le (by omega)
    rw [List.take_length]
    simp -implicitDefEqProofs only [go_sem, d, c60, hRl, c61, c62, c63, htR, Nat.reduceDiv]
    refine ⟨by omega, by omega, ⟨by omega, by omega⟩, fin _ n (n + 1) ?_⟩
    refine Wk.trans (b := ⟨[(11, .int .i64 ((k + 1 : Nat) : Int)), (10, .int .i64 l.length), (9, .isl PR), (3, .sl (sN 48) n 0 (k + 1))], [(sN 48, n, .rows 11 (RR ++ [[.str [], .int .i64 0, .int .i64 0, .bool false, .int .i64 0, .sl (sN 16) m16 0 1, .nils, .nils, .nils, .sl (sN 34) us 0 q.ups.length, .nils]])), (sN 34, us, .rows 3 (q.ups.map fun u => (f8 u).row)), (sN 16, m16, .rows 5 [[.int .i64 18, .int .i64 0, .int .i64 0, .int .i64 0, .int .i64 0]])], n + 1⟩)
     (.turn id ⟨.refl _, .refl _, .refl _, .refl _, trivial⟩ (.at 0 rfl rfl (.refl _) (.at 2 rfl rfl (.refl _) (.at 3 rfl rfl (.refl _) (.of fun e he => by cases he))))) ?_
    refine Wk.trans (b := ⟨[(11, .int .i64 ((k + 1 : Nat) : Int)), (10, .int .i64 l.length), (9, .isl PR), (3, .sl (sN 48) n 0 (k + 1))], [(sN 48, n, .rows 11 (RR ++ [[.str [], .int .i64 0, .int .i64 0, .bool false, .int .i64 0, .isl [[.int .i64 18, .int .i64 0, .int .i64 0, .int .i64 0, .int .i64 0]], .nils, .nils, .nils, .sl (sN 34) us 0 q.ups.length, .nils]])), (sN 34, us, .rows 3 (q.ups.map fun u => (f8 u).row))], n + 1⟩)
     (.freeze (b := sN 16) (st := m16) (sz := 5) (rs := [[.int .i64 18, .int .i64 0, .int .i64 0, .int .i64 0, .int .i64 0]]) (by simp) ⟨.of (.refl _), .of (.refl _), .of (.refl _), .of (.refl _), trivial⟩
       (.at 0 rfl (by decide) (A2t.snoc ⟨.of (.refl _), .of (.refl _), .of (.refl _), .of (.refl _), .of (.refl _), Frz.all rfl, .of (.refl _), .of (.refl _), .of (.refl _), .of (.refl _), .of (.refl _), trivial⟩) (.at 1 rfl (by decide) (.of (.refl _)) trivial))) ?_
    refine Wk.trans (b := ⟨[(11, .int .i64 ((k + 1 : Nat) : Int)), (10, .int .i64 l.length), (9, .isl PR), (3, .sl (sN 48) n 0 (k + 1))], [(sN 48, n, .rows 11 (RR ++ [[.str [], .int .i64 0, .int .i64 0, .bool false, .int .i64 0, .isl [[.int .i64 18, .int .i64 0, .int .i64 0, .int .i64 0, .int .i64 0]], .nils, .nils, .nils, .isl (q.ups.map fun u => (f8 u).row), .nils]]))], n + 1⟩)
     (.freeze (b := sN 34) (st := us) (sz := 3) (rs := q.ups.map fun u => (f8 u).row) (by simp) ⟨.of (.refl _), .of (.refl _), .of (.refl _), .of (.refl _), trivial⟩
       (.at 0 rfl (by decide) (A2t.snoc ⟨.of (.refl _), .of (.refl _), .of (.refl _), .of (.refl _), .of (.refl _), .of (.refl _), .of (.refl _), .of (.refl _), .of (.refl _), Frz.all (by simp), .of (.refl _), trivial⟩) trivial)) ?_
    exact .turn id ⟨.refl _, .refl _, .refl _, .refl _, trivial⟩ (.at 0 rfl rfl (K1.snocL ⟨.refl _, .refl _, .refl _, .refl _, .refl _, .refl _, .nilI, .nilI, .nilI, .refl _, .nilI, trivial⟩) (.of fun e he => by cases he))
 ·obtain rfl : k = l.length := by omega
  simp -implicitDefEqProofs only [go_sem, c]
  subst hQ
  refine u9.to (r2 := .isl ((l.map G8).map Fn.row)) (h2 := []) (n2 := m) (by simp -implicitDefEqProofs only [go_sem]; exact Fn.rows_sub C0 _) ?_
  exact .freeze (b := sN 48) (st := st) (sz := 11) (rs := (l.map G8).map Fn.row) (by simp) ⟨Frz.all (by simp), trivial⟩ trivial
end Go.Proofs.YtoanghfeednogaaGreatDoor
