/-
 What peephole.Proto answers. No condition.
-/
import Derived.Test.YtoanghfeednogaaGreatDoorPsT
import Derived.Test.YtoanghfeednogaaGreatDoorPeA
import Derived.Test.YtoanghfeednogaaGreatDoorFnQ2
import Derived.Test.YtoanghfeednogaaGreatDoorVerB
set_option linter.unusedVariables false
set_option linter.unusedSimpArgs false
set_option maxRecDepth 100000
set_option maxHeartbeats 0
namespace Go.Proofs.YtoanghfeednogaaGreatDoor
open Go.Abs
attribute [local irreducible] A2 Run
abbrev pN (k : Nat) : Nat := 6 * 10000 + k
-- EV: pN
attribute [local go_sem] pN
inductive Fx : Fn → Fn → Prop
 | stop {p : Fn} : p = R7 p → Fx p p
 | go {p x : Fn} : ¬ p = R7 p → Fx (R7 p) x → Fx p x
theorem C6H (p : Fn) : ∃ x, Fx p x := by
 by_cases h : p = R7 p
 ·exact ⟨p, .stop h⟩
 ·obtain ⟨x, hx⟩ := C6H (R7 p)
  exact ⟨x, .go h hx⟩
termination_by muF p
decreasing_by exact B4J h
theorem A9q (p : Fn) : Sh (B5 C3 p) p :=
 B5g (g := C3) (fun p => ⟨rfl, rfl, rfl, by show (p.code.map _).length ≤ _; rw [List.length_map]; exact Nat.le_refl _, Nat.le_refl _, Nat.le_refl _, rfl, rfl⟩) p
theorem B1S (p : Fn) : Sh (B5 Z3 p) p :=
 B5g (g := Z3) (fun p => ⟨rfl, rfl, rfl, (A0D _ p).1, (A0D _ p).2.1, (A0D _ p).2.2, rfl, rfl⟩) p
theorem A9u (p : Fn) : Sh (B5 Q6 p) p :=
 B5g (g := Q6) (fun p => ⟨rfl, rfl, rfl, (A0D _ p).1, (A0D _ p).2.1, (A0D _ p).2.2, rfl, rfl⟩) p
theorem C6i (p : Fn) : Sh (R7 p) p := (A9u _).trans ((B1S _).trans (A9q p))
theorem Fx.sh {p x : Fn} (h : Fx p x) : Sh x p := by
 induction h with
 | stop _ => exact .refl _
 | go _ _ ih => exact ih.trans (C6i _)
theorem FewF.sh {a b : Fn} (h : FewF b) (hs : Sh a b) : FewF a := ⟨hs.bd h.bd, Nat.le_trans hs.tot h.tot⟩
theorem C1n (p q : Fn) (h : Abs.Pure Tryz.prog 15 [.agg p.row, .fn 16 []] (.agg q.row)) : Abs.Pure Tryz.prog 8 [.agg p.row] (.agg q.row) := by
 have hs := Fn.row_sub C0 p
 have hs2 := Fn.row_sub C0 q
 obtain ⟨o1, o2⟩ := A9 p
 obtain ⟨o3, o4⟩ := A9 q
 refine Pure.of 0 (A2.enter Z7 (Nat.le_of_ble_eq_true rfl) (Run.go 100 ?_))
 generalize p.row = r at *
 generalize q.row = r2 at *
 simp -implicitDefEqProofs only [go_sem, A5, o1, o2]
 refine A2.pureF h (by simp -implicitDefEqProofs only [go_sem, hs]) ?_
 simp -implicitDefEqProofs only [go_sem, o1, o2, o3, o4, Nat.reduceDiv]
 exact hs2
theorem B2J (p : Fn) (h : FewF p) : Abs.Pure Tryz.prog 8 [.agg p.row] (.agg (B5 C3 p).row) := C1n p _ (B8D p h)
theorem B2u (p : Fn) (h : FewF p) : Abs.Pure Tryz.prog 9 [.agg p.row] (.agg (B5 Z3 p).row) := B5f p _ (C0F p h)
theorem B1i (p : Fn) (h : FewF p) : Abs.Pure Tryz.prog 10 [.agg p.row] (.agg (B5 Q6 p).row) := B2U p _ (B8J p h)
theorem C2W (p : Fn) : p.depth ≤ p.tot := by
 have := Fn.depth_each p
 have := (B7M p).1
 omega
theorem B8O (p : Fn) (hp : FewF p) : ∃ x, (B5S p = 0 → Sh x p) ∧ Pure Tryz.prog 6 [.agg p.row] (.tup [.agg x.row, .int .i64 (B5S p)]) := by
 have hck := B7O p hp.bd (by have := C2W p; have := hp.tot; omega)
 have hs := Fn.row_sub C0 p
 obtain ⟨h1, h2⟩ := A9 p
 by_cases hv : B5S p = 0
 ·rw [hv] at hck ⊢
  obtain ⟨x, hx⟩ := C6H p
  refine ⟨x, fun _ => hx.sh, Pure.of 0 (A2.enterK Z8 (Nat.le_of_ble_eq_true rfl) fun Q hQ => Run.go 100 ?_)⟩
  generalize hpr : p.row = pr at *
  simp -implicitDefEqProofs only [go_sem, A5, h1, h2]
  refine A2.pureF hck (by simp -implicitDefEqProofs only [go_sem, hs]) ?_
  simp -implicitDefEqProofs only [go_sem]
  refine Run.roundsK (fun (y : Fn × Nat) => ⟨[(2, .ptr (pN 2) 1 0 0), (1, .ptr (pN 1) 0 0 0)], [(pN 2, 1, .rows 11 [[.str [], .int .i64 0, .int .i64 0, .bool false, .int .i64 0, .nils, .nils, .nils, .nils, .nils, .nils]]), (pN 1, 0, .rows 11 [y.1.row])], y.2⟩)
   (fun y => FewF y.1 ∧ Fx y.1 x) (fun y => muF y.1) (p, 2) ?_ ⟨hp, hx⟩ ?_
  ·rw [hpr]
   exact .turn id ⟨.refl _, .refl _, trivial⟩ (.at 0 rfl rfl (.refl _) (.at 1 rfl rfl (.refl _) (.of fun e he => by cases he)))
  clear hs h1 h2 hck hpr hx hp hv
  rintro ⟨y, m⟩ ⟨hy, hf⟩ ih
  dsimp only at hy hf ih ⊢
  refine Run.unf A6e (Run.go 100 ?_)
  have y2 := hy.sh (A9q y)
  have y3 := y2.sh (B1S _)
  have y4 := y3.sh (A9u _)
  have c1 := B2J y hy
  have c2 := B2u _ y2
  have c3 := B1i _ y3
  have c4 := C1P y hy.bd (R7 y)
  have hlt := B4J (p := y)
  have fin := fun s' m' h1 h2 => ih s' (R7 y, m') h1 h2
  have hst : B5 Q6 (B5 Z3 (B5 C3 y)) = R7 y := rfl
  rw [hst] at c3 y4
  dsimp only at fin
  have s1 := Fn.row_sub C0 y
  have s2 := Fn.row_sub C0 (B5 C3 y)
  have s3 := Fn.row_sub C0 (B5 Z3 (B5 C3 y))
  have s4 := Fn.row_sub C0 (R7 y)
  obtain ⟨o1, o2⟩ := A9 y
  obtain ⟨o3, o4⟩ := A9 (B5 C3 y)
  obtain ⟨o5, o6⟩ := A9 (B5 Z3 (B5 C3 y))
  obtain ⟨o7, o8⟩ := A9 (R7 y)
  have o9 : y.row.drop 11 = [] := List.drop_of_length_le (by omega)
  by_cases hc : y = R7 y
  ·have hxy : x = y := by
    cases hf with
    | stop _ => rfl
    | go h _ => exact (h hc).elim
   have hxq : x.row = (R7 y).row := by rw [hxy, ← hc]
   have sx := Fn.row_sub C0 x
   rw [B0P hc] at c4
   rw [hxq] at hQ sx
   clear fin ih hlt hxq
   generalize y.row = yr at *
   generalize (B5 C3 y).row = jr at *
   generalize (B5 Z3 (B5 C3 y)).row = dr at *
   generalize (R7 y).row = qr at *
   simp -implicitDefEqProofs only [go_sem, o1, o2]
   refine A2.pureF c1 (by simp -implicitDefEqProofs only [go_sem, s1]) ?_
   simp -implicitDefEqProofs only [go_sem]
   refine A2.pureF c2 (by simp -implicitDefEqProofs only [go_sem, s2]) ?_
   simp -implicitDefEqProofs only [go_sem]
   refine A2.pureF c3 (by simp -implicitDefEqProofs only [go_sem, s3]) ?_
   simp -implicitDefEqProofs only [go_sem, o1, o2, o7, o8, Nat.reduceDiv]
   refine A2.pureF c4 (by simp -implicitDefEqProofs only [go_sem, s1, s4]) ?_
   simp -implicitDefEqProofs only [go_sem, o7, o8, Nat.reduceDiv]
   subst hQ
   refine u9.to (r2 := .tup [.agg qr, .int .i64 0]) (h2 := []) (n2 := m + 1) ?_ ?_
   ·simp -implicitDefEqProofs only [go_sem]
    exact sx
   ·exact .turn id ⟨.refl _, trivial⟩ (.of fun e he => by cases he)
  ·have hfx : Fx (R7 y) x := by
    cases hf with
    | stop h => exact (hc h).elim
    | go _ h => exact h
   rw [M7 hc] at c4
   have fin2 := fun s' m' => fin s' m' ⟨y4, hfx⟩ (hlt hc)
   clear fin ih hlt
   generalize y.row = yr at *
   generalize (B5 C3 y).row = jr at *
   generalize (B5 Z3 (B5 C3 y)).row = dr at *
   generalize (R7 y).row = qr at *
   simp -implicitDefEqProofs only [go_sem, o1, o2]
   refine A2.pureF c1 (by simp -implicitDefEqProofs only [go_sem, s1]) ?_
   simp -implicitDefEqProofs only [go_sem]
   refine A2.pureF c2 (by simp -implicitDefEqProofs only [go_sem, s2]) ?_
   simp -implicitDefEqProofs only [go_sem]
   refine A2.pureF c3 (by simp -implicitDefEqProofs only [go_sem, s3]) ?_
   simp -implicitDefEqProofs only [go_sem, o1, o2, o7, o8, Nat.reduceDiv]
   refine A2.pureF c4 (by simp -implicitDefEqProofs only [go_sem, s1, s4]) ?_
   simp -implicitDefEqProofs only [go_sem, o1, o7, o8, o9, Nat.reduceDiv, List.append_nil]
   exact fin2 _ (m + 1) (.turn id ⟨.refl _, .refl _, trivial⟩ (.at 2 rfl rfl (.refl _) (.at 0 rfl rfl (.refl _) (.of fun e he => by cases he))))
 ·refine ⟨B3z, fun h => (hv h).elim, ?_⟩
  have hc0 := eq_false hv
  rw [B7Q]
  refine Pure.of 0 (A2.enter Z8 (Nat.le_of_ble_eq_true rfl) (Run.go 100 ?_))
  generalize p.row = pr at *
  generalize B5S p = ce at *
  simp -implicitDefEqProofs only [go_sem, A5, h1, h2]
  refine A2.pureF hck (by simp -implicitDefEqProofs only [go_sem, hs]) ?_
  simp -implicitDefEqProofs only [go_sem, hc0, B3C]
theorem B7y (p : Fn) (hp : p.bd) : Pure Tryz.prog 3 [.agg p.row] (.bool true) := by
 have hl := B6T p hp
 have aw := B7T
 obtain ⟨h1, h2⟩ := A9 p
 have hs := Fn.row_sub C0 p
 refine Pure.of 0 (A2.enter K2 (Nat.le_of_ble_eq_true rfl) (Run.go 100 ?_))
 cases hb : p.lgB with
 | true =>
  rw [hb] at hl
  generalize p.row = pr at *
  simp -implicitDefEqProofs only [go_sem, A5, h1, h2]
  refine A2.pureF hl (by simp -implicitDefEqProofs only [go_sem, hs]) ?_
  simp -implicitDefEqProofs only [go_sem]
  refine A2.pureF aw rfl ?_
  simp -implicitDefEqProofs only [go_sem]
 | false =>
 rw [hb] at hl
 have hf : FewF p := ⟨hp, C8v hb⟩
 obtain ⟨x, hx, pp⟩ := B8O p hf
 have jj := B2J p hf
 have dd := B2u p hf
 have mm := B1i p hf
 have j2 := A0x (A9q p) (hf.sh (A9q p)).bd
 have d2 := A0x (B1S p) (hf.sh (B1S p)).bd
 have m2 := A0x (A9u p) (hf.sh (A9u p)).bd
 have p2 := fun h => A0x (hx h) (hf.sh (hx h)).bd
 have s1 := Fn.row_sub C0 (B5 C3 p)
 have s2 := Fn.row_sub C0 (B5 Z3 p)
 have s3 := Fn.row_sub C0 (B5 Q6 p)
 have s4 := Fn.row_sub C0 x
 obtain ⟨o1, o2⟩ := A9 (B5 C3 p)
 obtain ⟨o3, o4⟩ := A9 (B5 Z3 p)
 obtain ⟨o5, o6⟩ := A9 (B5 Q6 p)
 obtain ⟨o7, o8⟩ := A9 x
 generalize (B5 C3 p).row = jr at *
 generalize (B5 Z3 p).row = dr at *
 generalize (B5 Q6 p).row = mr at *
 generalize x.row = xr at *
 generalize p.row = pr at *
 simp -implicitDefEqProofs only [go_sem, A5, h1, h2]
 refine A2.pureF hl (by simp -implicitDefEqProofs only [go_sem, hs]) ?_
 simp -implicitDefEqProofs only [go_sem, h1, h2]
 refine A2.pureF pp (by simp -implicitDefEqProofs only [go_sem, hs]) ?_
 by_cases hv : B5S p = 0
 ·have p3 := p2 hv
  have hv0 := eq_true hv
  generalize B5S p = ce at *
  simp -implicitDefEqProofs only [go_sem, h1, h2, o7, o8, hv0, Nat.reduceDiv]
  repeat' first
   | refine And.intro ?_ ?_
   | (refine A2.pureF jj (by (simp -implicitDefEqProofs only [go_sem, hs]; done)) ?_; simp -implicitDefEqProofs only [go_sem, h1, h2, o7, o8, hv0, Nat.reduceDiv])
   | (refine A2.pureF dd (by (simp -implicitDefEqProofs only [go_sem, hs]; done)) ?_; simp -implicitDefEqProofs only [go_sem, h1, h2, o7, o8, hv0, Nat.reduceDiv])
   | (refine A2.pureF mm (by (simp -implicitDefEqProofs only [go_sem, hs]; done)) ?_; simp -implicitDefEqProofs only [go_sem, h1, h2, o7, o8, hv0, Nat.reduceDiv])
   | (refine A2.pureF j2 (by (simp -implicitDefEqProofs only [go_sem, hs, s1]; done)) ?_; simp -implicitDefEqProofs only [go_sem, h1, h2, o7, o8, hv0, Nat.reduceDiv])
   | (refine A2.pureF d2 (by (simp -implicitDefEqProofs only [go_sem, hs, s2]; done)) ?_; simp -implicitDefEqProofs only [go_sem, h1, h2, o7, o8, hv0, Nat.reduceDiv])
   | (refine A2.pureF m2 (by (simp -implicitDefEqProofs only [go_sem, hs, s3]; done)) ?_; simp -implicitDefEqProofs only [go_sem, h1, h2, o7, o8, hv0, Nat.reduceDiv])
   | (refine A2.pureF p3 (by (simp -implicitDefEqProofs only [go_sem, hs, s4]; done)) ?_; simp -implicitDefEqProofs only [go_sem, h1, h2, o7, o8, hv0, Nat.reduceDiv])
   | (refine A2.pureF aw rfl ?_; simp -implicitDefEqProofs only [go_sem])
 ·have hv0 := eq_false hv
  clear p2 hx
  generalize B5S p = ce at *
  simp -implicitDefEqProofs only [go_sem, h1, h2, o7, o8, hv0, Nat.reduceDiv]
  repeat' first
   | refine And.intro ?_ ?_
   | (refine A2.pureF jj (by (simp -implicitDefEqProofs only [go_sem, hs]; done)) ?_; simp -implicitDefEqProofs only [go_sem, h1, h2, o7, o8, hv0, Nat.reduceDiv])
   | (refine A2.pureF dd (by (simp -implicitDefEqProofs only [go_sem, hs]; done)) ?_; simp -implicitDefEqProofs only [go_sem, h1, h2, o7, o8, hv0, Nat.reduceDiv])
   | (refine A2.pureF mm (by (simp -implicitDefEqProofs only [go_sem, hs]; done)) ?_; simp -implicitDefEqProofs only [go_sem, h1, h2, o7, o8, hv0, Nat.reduceDiv])
   | (refine A2.pureF j2 (by (simp -implicitDefEqProofs only [go_sem, hs, s1]; done)) ?_; simp -implicitDefEqProofs only [go_sem, h1, h2, o7, o8, hv0, Nat.reduceDiv])
   | (refine A2.pureF d2 (by (simp -implicitDefEqProofs only [go_sem, hs, s2]; done)) ?_; simp -implicitDefEqProofs only [go_sem, h1, h2, o7, o8, hv0, Nat.reduceDiv])
   | (refine A2.pureF m2 (by (simp -implicitDefEqProofs only [go_sem, hs, s3]; done)) ?_; simp -implicitDefEqProofs only [go_sem, h1, h2, o7, o8, hv0, Nat.reduceDiv])
   | (refine A2.pureF aw rfl ?_; simp -implicitDefEqProofs only [go_sem])
theorem A6d (cs : List V) (w : Typed Tryz.prog 29 cs) : Pure Tryz.prog 3 [.agg cs] (.bool true) := by
 obtain ⟨p, rfl, _, hb⟩ := C3l w
 exact B7y p hb
end Go.Proofs.YtoanghfeednogaaGreatDoor
