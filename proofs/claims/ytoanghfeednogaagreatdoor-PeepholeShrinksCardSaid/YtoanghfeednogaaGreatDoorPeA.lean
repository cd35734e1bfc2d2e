/-
 The law's own examples: what each function answers on them, by running it. No condition.
-/
import Derived.Test.YtoanghfeednogaaGreatDoorPeDL
import Derived.Test.YtoanghfeednogaaGreatDoorPeE
import Derived.Test.YtoanghfeednogaaGreatDoorPeM
import Derived.Test.YtoanghfeednogaaGreatDoorOpcM
set_option linter.unusedVariables false
set_option linter.unusedSimpArgs false
set_option maxRecDepth 1000000
set_option maxHeartbeats 0
namespace Go.Proofs.YtoanghfeednogaaGreatDoor
open Go.Abs
attribute [local irreducible] A2 Run
def t6 (l : List Ins) : Fn := ⟨[], 0, 0, false, 2, l, [], [], [], [], []⟩
def i5 (a b c d e : Int) : List V := [.int .i64 a, .int .i64 b, .int .i64 c, .int .i64 d, .int .i64 e]
def D4 (l : List (List V)) : List V := [.str [], .int .i64 0, .int .i64 0, .bool false, .int .i64 2, .isl l, .isl [], .isl [], .isl [], .isl [], .isl []]
theorem K7 (l : List Ins) : (t6 l).row = D4 (l.map Ins.row) := by rw [Fn.row_eq]; rfl
def stI : Ins := ⟨29, 0, 0, 0, 0⟩
def reI : Ins := ⟨18, 0, 0, 0, 0⟩
def aF : Fn := t6 [⟨14, 0, 2, 0, 0⟩, stI, ⟨14, 0, 1, 0, 0⟩]
def bF : Fn := t6 [⟨1, 1, 1, 0, 0⟩, stI, reI]
def cF : Fn := t6 [reI, stI, reI]
def c1F : Fn := t6 [reI]
def stR : List V := i5 29 0 0 0 0
def reR : List V := i5 18 0 0 0 0
def B6V (T : List (FuncId × List V × V)) (lib : I9) : I9 := fun f xs h n => find f xs h n T
where
 find (f : FuncId) (xs : List V) (h : A0) (n : Nat) : List (FuncId × List V × V) → O5
  | [] => lib f xs h n
  | e :: r => bif Nat.beq e.1 f && V.beqL e.2.1 xs then D9 e.2.2 h n else find f xs h n r
theorem B6W {T : List (FuncId × List V × V)} {lib : I9} (hT : ∀ e ∈ T, Abs.Pure Tryz.prog e.1 e.2.1 e.2.2 ∧ e.2.1.map (V.sub C0) = e.2.1) (hl : G9 Tryz.prog lib) : G9 Tryz.prog (B6V T lib) := by
 intro f xs h n k hg
 have key : ∀ T' : List (FuncId × List V × V), (∀ e ∈ T', e ∈ T) → Go.Abs.Good (B6V.find lib f xs h n T') k → A2 Tryz.prog f xs h n k := by
  intro T'
  induction T' with
  | nil => exact fun _ hg => hl f xs h n k hg
  | cons e r ih =>
   intro hm hg
   simp only [B6V.find] at hg
   cases hb : Nat.beq e.1 f && V.beqL e.2.1 xs with
   | false => rw [hb] at hg; exact ih (fun x hx => hm x (List.mem_cons_of_mem _ hx)) hg
   | true =>
    rw [hb, cond_true] at hg
    rw [Bool.and_eq_true] at hb
    obtain ⟨h1, h2⟩ := hT e (hm e List.mem_cons_self)
    rw [← Nat.eq_of_beq_eq_true hb.1, ← V.beqL_eq hb.2]
    exact A2.pure h1 h2 hg.one
 exact key T (fun _ h => h) hg
theorem nx0 : Abs.Pure Tryz.prog 38 [.agg (D4 [reR, stR, reR]), .int .i64 0] (.isl []) := by
 have h := X5 [reI, stI, reI] 0 (by decide) (.str []) (.int .i64 0) (.int .i64 0) (.bool false) (.int .i64 2) (.isl []) (.isl []) (.isl []) (.isl []) (.isl [])
 rwa [show C2 [reI, stI, reI] 0 = [] by decide +kernel] at h
theorem nx1 : Abs.Pure Tryz.prog 38 [.agg (D4 [reR, stR, reR]), .int .i64 1] (.isl [[.int .i64 2]]) := by
 have h := X5 [reI, stI, reI] 1 (by decide) (.str []) (.int .i64 0) (.int .i64 0) (.bool false) (.int .i64 2) (.isl []) (.isl []) (.isl []) (.isl []) (.isl [])
 rwa [show C2 [reI, stI, reI] 1 = [2] by decide +kernel] at h
theorem nx2 : Abs.Pure Tryz.prog 38 [.agg (D4 [reR, stR, reR]), .int .i64 2] (.isl []) := by
 have h := X5 [reI, stI, reI] 2 (by decide) (.str []) (.int .i64 0) (.int .i64 0) (.bool false) (.int .i64 2) (.isl []) (.isl []) (.isl []) (.isl []) (.isl [])
 rwa [show C2 [reI, stI, reI] 2 = [] by decide +kernel] at h
theorem nx3 : Abs.Pure Tryz.prog 38 [.agg (D4 [reR]), .int .i64 0] (.isl []) := by
 have h := X5 [reI] 0 (by decide) (.str []) (.int .i64 0) (.int .i64 0) (.bool false) (.int .i64 2) (.isl []) (.isl []) (.isl []) (.isl []) (.isl [])
 rwa [show C2 [reI] 0 = [] by decide +kernel] at h
def D3r : I9 := B6V [
 (38, [.agg (D4 [reR, stR, reR]), .int .i64 0], .isl []),
 (38, [.agg (D4 [reR, stR, reR]), .int .i64 1], .isl [[.int .i64 2]]),
 (38, [.agg (D4 [reR, stR, reR]), .int .i64 2], .isl []),
 (38, [.agg (D4 [reR]), .int .i64 0], .isl [])] C3B
theorem B5u : G9 Tryz.prog D3r := B6W (fun e he => by
 simp only [List.mem_cons, List.not_mem_nil, or_false] at he
 rcases he with rfl | rfl | rfl | rfl
 ·exact ⟨nx0, rfl⟩
 ·exact ⟨nx1, rfl⟩
 ·exact ⟨nx2, rfl⟩
 ·exact ⟨nx3, rfl⟩) A4d
theorem C4e : Abs.Pure Tryz.prog 49 [.agg (D4 [reR, stR, reR]), .isl []] (.tup [.isl [], .int .i64 0, .bool false]) :=
 Pure.execB (m := 20000) (d := 20) (fr := 1) p6 B5u (by kernel_rfl)
theorem D2a : Abs.Pure Tryz.prog 16 [.agg (D4 [i5 14 0 2 0 0, stR, i5 14 0 1 0 0])] (.agg (D4 [i5 14 0 1 0 0, stR, i5 14 0 1 0 0])) :=
 Pure.execB (m := 20000) (d := 20) (fr := 1) p6 A4d (by kernel_rfl)
theorem D2b : Abs.Pure Tryz.prog 16 [.agg (D4 [reR, stR, reR])] (.agg (D4 [reR, stR, reR])) :=
 Pure.execB (m := 20000) (d := 20) (fr := 1) p6 A4d (by kernel_rfl)
theorem C8p : Abs.Pure Tryz.prog 16 [.agg (D4 [reR])] (.agg (D4 [reR])) :=
 Pure.execB (m := 20000) (d := 20) (fr := 1) p6 A4d (by kernel_rfl)
theorem C7U : Abs.Pure Tryz.prog 19 [.agg (D4 [reR, stR, reR])] (.agg (D4 [reR])) :=
 Pure.execB (m := 20000) (d := 20) (fr := 1) p6 B5u (by kernel_rfl)
theorem C5j : Abs.Pure Tryz.prog 19 [.agg (D4 [reR])] (.agg (D4 [reR])) :=
 Pure.execB (m := 20000) (d := 20) (fr := 1) p6 B5u (by kernel_rfl)
theorem C5S : Abs.Pure Tryz.prog 14 [.agg (D4 [reR, stR, reR]), .agg (D4 [reR])] (.bool false) :=
 Pure.execB (m := 20000) (d := 20) (fr := 1) p6 A4d (by kernel_rfl)
theorem C4d : Abs.Pure Tryz.prog 14 [.agg (D4 [reR]), .agg (D4 [reR])] (.bool true) :=
 Pure.execB (m := 20000) (d := 20) (fr := 1) p6 A4d (by kernel_rfl)
theorem C2N (l : List Ins) : (t6 l).each = [t6 l] := by rw [Fn.each_eq]; rfl
theorem B5a (l : List Ins) (h : l.length ≤ 10) : (t6 l).bd := by
 intro q hq
 rw [C2N] at hq
 obtain rfl := List.mem_singleton.1 hq
 exact ⟨by show l.length ≤ _; omega, Nat.zero_le _, Nat.zero_le _, Nat.zero_le _, Nat.zero_le _, Nat.zero_le _⟩
theorem B0q (l : List Ins) : F5 (t6 l) = t6 l := rfl
theorem B3T (l : List Ins) : (t6 l).depth ≤ 1000000 := by rw [Fn.depth_eq, show (t6 l).protos = [] from rfl, Fn.depths]; decide
theorem D1F : Y5 aF = 0 := by decide +kernel
theorem D1G : Y5 bF = 0 := by decide +kernel
theorem C2H : Y5 cF = 0 := by decide +kernel
theorem B8b : Y5 c1F = 0 := by decide +kernel
theorem A0J (f : FuncId) (hf : F0 Tryz.prog f = true) (l l2 : List Ins) (hl : l.length ≤ 10) (hc : Y5 (t6 l) = 0) (h : Abs.Pure Tryz.prog f [.agg (t6 l).row] (.agg (t6 l2).row)) :
  Abs.Pure Tryz.prog 15 [.agg (t6 l).row, .fn f []] (.agg (t6 l2).row) := by
 have := A6O f hf (fun _ => t6 l2) (fun p => p = t6 l) (fun p hp q hq => by subst hp; cases hq) (fun p hp => by
  subst hp
  exact ⟨Nat.zero_le _, (fun q hq => by cases hq), by rw [B0q]; exact B5a l hl, by rw [B0q]; exact B3T l⟩) (fun p hp _ => by subst hp; exact h) (t6 l) rfl
 rw [V5, B0q, if_pos hc] at this
 exact this
theorem B2I {l l2 : List Ins} (h : Abs.Pure Tryz.prog 15 [.agg (t6 l).row, .fn 16 []] (.agg (t6 l2).row)) : Abs.Pure Tryz.prog 8 [.agg (D4 (l.map Ins.row))] (.agg (D4 (l2.map Ins.row))) := by
 rw [K7, K7] at h
 have hs := Fn.row_sub C0 (t6 l)
 have hs2 := Fn.row_sub C0 (t6 l2)
 rw [K7] at hs hs2
 refine Pure.of 0 (A2.enter Z7 (Nat.le_of_ble_eq_true rfl) (Run.go 100 ?_))
 generalize hr : D4 (l.map Ins.row) = r at *
 generalize hr2 : D4 (l2.map Ins.row) = r2 at *
 have o1 : r.length = 11 := by rw [← hr]; rfl
 have o2 : r.take 11 = r := by rw [← hr]; rfl
 have o3 : r2.length = 11 := by rw [← hr2]; rfl
 have o4 : r2.take 11 = r2 := by rw [← hr2]; rfl
 simp -implicitDefEqProofs only [go_sem, A5, o1, o2]
 refine A2.pureF h (by simp -implicitDefEqProofs only [go_sem, hs]) ?_
 simp -implicitDefEqProofs only [go_sem, o1, o2, o3, o4, Nat.reduceDiv]
 exact hs2
theorem C5s : Abs.Pure Tryz.prog 8 [.agg (D4 [i5 14 0 2 0 0, stR, i5 14 0 1 0 0])] (.agg (D4 [i5 14 0 1 0 0, stR, i5 14 0 1 0 0])) :=
 B2I (l := [⟨14, 0, 2, 0, 0⟩, stI, ⟨14, 0, 1, 0, 0⟩]) (l2 := [⟨14, 0, 1, 0, 0⟩, stI, ⟨14, 0, 1, 0, 0⟩]) (A0J _ rfl _ _ (by decide) D1F (by rw [K7, K7]; exact D2a))
theorem C5t : Abs.Pure Tryz.prog 8 [.agg (D4 [reR, stR, reR])] (.agg (D4 [reR, stR, reR])) :=
 B2I (l := [reI, stI, reI]) (l2 := [reI, stI, reI]) (A0J _ rfl _ _ (by decide) C2H (by rw [K7]; exact D2b))
theorem C3y : Abs.Pure Tryz.prog 8 [.agg (D4 [reR])] (.agg (D4 [reR])) :=
 B2I (l := [reI]) (l2 := [reI]) (A0J _ rfl _ _ (by decide) B8b (by rw [K7]; exact C8p))
theorem B5f (p q : Fn) (h : Abs.Pure Tryz.prog 15 [.agg p.row, .fn 19 []] (.agg q.row)) : Abs.Pure Tryz.prog 9 [.agg p.row] (.agg q.row) := by
 have hs := Fn.row_sub C0 p
 have hs2 := Fn.row_sub C0 q
 obtain ⟨o1, o2⟩ := A9 p
 obtain ⟨o3, o4⟩ := A9 q
 refine Pure.of 0 (A2.enter A2Y (Nat.le_of_ble_eq_true rfl) (Run.go 100 ?_))
 generalize p.row = r at *
 generalize q.row = r2 at *
 simp -implicitDefEqProofs only [go_sem, A5, o1, o2]
 refine A2.pureF h (by simp -implicitDefEqProofs only [go_sem, hs]) ?_
 simp -implicitDefEqProofs only [go_sem, o1, o2, o3, o4, Nat.reduceDiv]
 exact hs2
theorem B2U (p q : Fn) (h : Abs.Pure Tryz.prog 15 [.agg p.row, .fn 23 []] (.agg q.row)) : Abs.Pure Tryz.prog 10 [.agg p.row] (.agg q.row) := by
 have hs := Fn.row_sub C0 p
 have hs2 := Fn.row_sub C0 q
 obtain ⟨o1, o2⟩ := A9 p
 obtain ⟨o3, o4⟩ := A9 q
 refine Pure.of 0 (A2.enter A1R (Nat.le_of_ble_eq_true rfl) (Run.go 100 ?_))
 generalize p.row = r at *
 generalize q.row = r2 at *
 simp -implicitDefEqProofs only [go_sem, A5, o1, o2]
 refine A2.pureF h (by simp -implicitDefEqProofs only [go_sem, hs]) ?_
 simp -implicitDefEqProofs only [go_sem, o1, o2, o3, o4, Nat.reduceDiv]
 exact hs2
theorem B9M : Abs.Pure Tryz.prog 9 [.agg (D4 [reR, stR, reR])] (.agg (D4 [reR])) := by
 have h := B5f _ _ (A0J _ rfl [reI, stI, reI] [reI] (by decide) C2H (by rw [K7, K7]; exact C7U))
 rw [K7, K7] at h
 exact h
theorem C2T : Abs.Pure Tryz.prog 9 [.agg (D4 [reR])] (.agg (D4 [reR])) := by
 have h := B5f _ _ (A0J _ rfl [reI] [reI] (by decide) B8b (by rw [K7]; exact C5j))
 rw [K7] at h
 exact h
theorem D3t : Abs.Pure Tryz.prog 23 [.agg bF.row] (.agg (t6 [stI, reI]).row) := by
 have h := A8h bF ⟨by decide, .inr rfl, by decide, (fun v hv => by cases hv), by decide⟩ (by decide) (B5a _ (by decide)) (fun q hq => by cases hq) (by decide) (by decide) (by decide)
 have g0 : U1 bF 0 = true := by
  unfold U1
  rw [show bF.code[0]? = some ⟨1, 1, 1, 0, 0⟩ from rfl]
  simp [show A6v bF.code 0 = true by decide]
 have g1 : U1 bF 1 = false := by unfold U1; rw [show bF.code[1]? = some stI from rfl]; simp [stI]
 have g2 : U1 bF 2 = false := by unfold U1; rw [show bF.code[2]? = some reI from rfl]; simp [reI]
 have e : Q6 bF = t6 [stI, reI] := by
  unfold Q6 E2
  have hc : D1 (U1 bF) bF.code bF.code.length = [stI, reI] := by
   show D1 (U1 bF) [⟨1, 1, 1, 0, 0⟩, stI, reI] 3 = _
   simp [D1, g0, g1, g2]
  rw [hc]
  rfl
 rwa [e] at h
theorem D2i : Abs.Pure Tryz.prog 23 [.agg c1F.row] (.agg c1F.row) := by
 have h := A8h c1F ⟨by decide, .inr rfl, by decide, (fun v hv => by cases hv), by decide⟩ (by decide) (B5a _ (by decide)) (fun q hq => by cases hq) (by decide) (by decide) (by decide)
 have g0 : U1 c1F 0 = false := by unfold U1; rw [show c1F.code[0]? = some reI from rfl]; simp [reI]
 have e : Q6 c1F = c1F := by
  unfold Q6 E2
  have hc : D1 (U1 c1F) c1F.code c1F.code.length = [reI] := by
   show D1 (U1 c1F) [reI] 1 = _
   simp [D1, g0]
  rw [hc]
  rfl
 rwa [e] at h
theorem C3I : Abs.Pure Tryz.prog 10 [.agg (D4 [i5 1 1 1 0 0, stR, reR])] (.agg (D4 [stR, reR])) := by
 have h := B2U _ _ (A0J _ rfl [⟨1, 1, 1, 0, 0⟩, stI, reI] [stI, reI] (by decide) D1G D3t)
 rw [K7, K7] at h
 exact h
theorem C1w : Abs.Pure Tryz.prog 10 [.agg (D4 [reR])] (.agg (D4 [reR])) := by
 have h := B2U _ _ (A0J _ rfl [reI] [reI] (by decide) B8b D2i)
 rw [K7] at h
 exact h
def B3z : Fn := ⟨[], 0, 0, false, 0, [], [], [], [], [], []⟩
def B3C : List V := [.str [], .int .i64 0, .int .i64 0, .bool false, .int .i64 0, .isl [], .isl [], .isl [], .isl [], .isl [], .isl []]
theorem B7Q : B3z.row = B3C := by rw [Fn.row_eq]; rfl
theorem C6r : B3z.bd := by
 intro q hq
 rw [Fn.each_eq] at hq
 obtain rfl : q = B3z := by simpa [B3z, Fn.eachs] using hq
 exact ⟨Nat.zero_le _, Nat.zero_le _, Nat.zero_le _, Nat.zero_le _, Nat.zero_le _, Nat.zero_le _⟩
theorem B9x : Abs.Pure Tryz.prog 37 [.agg (D4 [reR, stR, reR])] (.int .i64 0) := by
 have h := A1P cF (B5a _ (by decide)) (B3T _)
 rw [C2H] at h
 unfold cF at h
 rw [K7] at h
 exact h
theorem C5f : Abs.Pure Tryz.prog 37 [.agg B3C] (.int .i64 4) := by
 have h := A1P B3z C6r (by decide +kernel)
 rw [show Y5 B3z = 4 by decide +kernel, B7Q] at h
 exact h
theorem C0W : Abs.Pure Tryz.prog 29 [.agg (D4 [reR, stR, reR])] (.tup [.isl [], .int .i64 0, .int .i64 0]) := by
 refine Pure.of 0 (A2.enter j4 (Nat.le_of_ble_eq_true rfl) (Run.go 100 ?_))
 have hs : (D4 [reR, stR, reR]).map (V.sub C0) = D4 [reR, stR, reR] := rfl
 have c1 := B9x
 have c2 := C4e
 have o1 : (D4 [reR, stR, reR]).length = 11 := rfl
 have o2 : (D4 [reR, stR, reR]).take 11 = D4 [reR, stR, reR] := rfl
 generalize D4 [reR, stR, reR] = r at *
 simp -implicitDefEqProofs only [go_sem, A5, o1, o2]
 refine A2.pureF c1 (by simp -implicitDefEqProofs only [go_sem, hs]) ?_
 simp -implicitDefEqProofs only [go_sem, o1, o2]
 refine A2.pure c2 (by simp -implicitDefEqProofs only [go_sem, hs]) ?_
 simp -implicitDefEqProofs only [go_sem, o1, o2]
def D3s : I9 := B6V [
 (37, [.agg (D4 [reR, stR, reR])], .int .i64 0),
 (37, [.agg B3C], .int .i64 4),
 (29, [.agg (D4 [reR, stR, reR])], .tup [.isl [], .int .i64 0, .int .i64 0]),
 (8, [.agg (D4 [reR, stR, reR])], .agg (D4 [reR, stR, reR])),
 (8, [.agg (D4 [reR])], .agg (D4 [reR])),
 (9, [.agg (D4 [reR, stR, reR])], .agg (D4 [reR])),
 (9, [.agg (D4 [reR])], .agg (D4 [reR])),
 (10, [.agg (D4 [reR])], .agg (D4 [reR])),
 (14, [.agg (D4 [reR, stR, reR]), .agg (D4 [reR])], .bool false),
 (14, [.agg (D4 [reR]), .agg (D4 [reR])], .bool true)] C3O
theorem B9W : G9 Tryz.prog D3s := B6W (fun e he => by
 simp only [List.mem_cons, List.not_mem_nil, or_false] at he
 rcases he with rfl | rfl | rfl | rfl | rfl | rfl | rfl | rfl | rfl | rfl
 ·exact ⟨B9x, rfl⟩
 ·exact ⟨C5f, rfl⟩
 ·exact ⟨C0W, rfl⟩
 ·exact ⟨C5t, rfl⟩
 ·exact ⟨C3y, rfl⟩
 ·exact ⟨B9M, rfl⟩
 ·exact ⟨C2T, rfl⟩
 ·exact ⟨C1w, rfl⟩
 ·exact ⟨C5S, rfl⟩
 ·exact ⟨C4d, rfl⟩) B2W
theorem C5I : Abs.Pure Tryz.prog 6 [.agg (D4 [reR, stR, reR])] (.tup [.agg (D4 [reR]), .int .i64 0]) :=
 Pure.execB (m := 20000) (d := 20) (fr := 1) p6 B9W (by kernel_rfl)
theorem C5J : Abs.Pure Tryz.prog 6 [.agg B3C] (.tup [.agg B3C, .int .i64 4]) :=
 Pure.execB (m := 20000) (d := 20) (fr := 1) p6 B9W (by kernel_rfl)
-- EV: stR, reR, i5, codR, zeroR
attribute [local go_sem] stR reR i5 D4 B3C
theorem A6M (l : List (List V)) (b st k : Nat) (hk : k = l.length) (rest : A0) (hap : ∀ e ∈ rest, e.1 ≠ b ∧ e.1 / 10000 ≠ 12) (hb : b / 10000 ≠ 12) (n : Nat) :
  A2 Tryz.prog 12 [.sl b st 0 k] ((b, st, .rows 5 l) :: rest) n fun r h' _ => r = .agg (D4 l) ∧ h' = rest := by
 subst hk
 refine A2.enterK d8 (Nat.le_of_ble_eq_true rfl) fun Q hQ => Run.go 100 ?_
 have hd : A0.del rest (12 * 10000 + 2) = rest := Y8.del fun e he h2 => (hap e he).2 (by rw [h2])
 have hb2 : (b = 12 * 10000 + 2) = False := eq_false fun h2 => hb (by rw [h2])
 simp only [Nat.reduceMul, Nat.reduceAdd] at hd hb2
 simp -implicitDefEqProofs only [go_sem, A5, hd, hb2]
 subst hQ
 exact u9.to (r2 := .agg (D4 l)) (h2 := rest) ⟨rfl, rfl⟩ (Wk.trans (b := ⟨[(0, .agg [.str [], .int .i64 0, .int .i64 0, .bool false, .int .i64 2, .isl l, .nils, .nils, .nils, .nils, .nils])], rest, n + 1⟩)
  (.freeze (b := b) (st := st) (sz := 5) (rs := l) (by simp) ⟨Frz.agg ⟨.of (.refl _), .of (.refl _), .of (.refl _), .of (.refl _), .of (.refl _), Frz.all rfl, .of (.refl _), .of (.refl _), .of (.refl _), .of (.refl _), .of (.refl _), trivial⟩, trivial⟩ (A3V.of fun e he => ⟨by simp [he], (hap e he).1⟩))
  (.turn id ⟨E6.agg ⟨.refl _, .refl _, .refl _, .refl _, .refl _, .refl _, .nilI, .nilI, .nilI, .nilI, .nilI, trivial⟩, trivial⟩ (.of fun e he => ⟨e, he, rfl, rfl, .refl _⟩)))
theorem B7T : Pure Tryz.prog 5 [] (.bool true) := by
 refine Pure.of 0 (A2.enter X6 (Nat.le_of_ble_eq_true rfl) (Run.go 100 ?_))
 simp -implicitDefEqProofs only [go_sem, A5]
 refine (A6M _ _ _ 3 ?_ _ ?_ ?_ _).mono ?_
 ·rfl
 ·simp
 ·decide
 rintro r h' n' ⟨rfl, rfl⟩
 simp -implicitDefEqProofs only [go_sem]
 refine A2.pureF C5s rfl ?_
 simp -implicitDefEqProofs only [go_sem]
 refine (A6M _ _ _ 3 ?_ _ ?_ ?_ _).mono ?_
 ·rfl
 ·simp
 ·decide
 rintro r h' n' ⟨rfl, rfl⟩
 simp -implicitDefEqProofs only [go_sem]
 refine A2.pureF C3I rfl ?_
 simp -implicitDefEqProofs only [go_sem]
 refine (A6M _ _ _ 3 ?_ _ ?_ ?_ _).mono ?_
 ·rfl
 ·simp
 ·decide
 rintro r h' n' ⟨rfl, rfl⟩
 simp -implicitDefEqProofs only [go_sem]
 refine A2.pureF B9M rfl ?_
 simp -implicitDefEqProofs only [go_sem]
 refine (A6M _ _ _ 3 ?_ _ ?_ ?_ _).mono ?_
 ·rfl
 ·simp
 ·decide
 rintro r h' n' ⟨rfl, rfl⟩
 simp -implicitDefEqProofs only [go_sem]
 refine A2.pureF C5I rfl ?_
 simp -implicitDefEqProofs only [go_sem]
 refine A2.view C5J 1 rfl rfl ?_
 simp -implicitDefEqProofs only [go_sem]
 done
end Go.Proofs.YtoanghfeednogaaGreatDoor
