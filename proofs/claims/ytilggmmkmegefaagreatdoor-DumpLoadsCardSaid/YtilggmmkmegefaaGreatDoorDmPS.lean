/-
 What Get and Load answer where the checksum does not fit. No condition.
-/
import Derived.Test.YtilggmmkmegefaaGreatDoorDmC
import Derived.Test.YtilggmmkmegefaaGreatDoorFnMb
import Derived.Test.YtilggmmkmegefaaGreatDoorCode
set_option linter.unusedVariables false
set_option linter.unusedSimpArgs false
set_option maxRecDepth 1000000
set_option maxHeartbeats 0
namespace Go.Proofs.YtilggmmkmegefaaGreatDoor
open Go.Abs
attribute [local irreducible] A4 Run
theorem A3K (l : List Int) : (byR l).map (fun r => r.map (V.sub J2)) = byR l := by simp [byR, V.sub]
def O4 : V := .agg [.str [], .int .i64 0, .int .i64 0, .bool false, .int .i64 0, .isl [], .isl [], .isl [], .isl [], .isl [], .isl []]
theorem C2L (M : List Int) (a b c d : Int) (h5 : 5 ≤ M.length) (hl : M.length ≤ 10000000000) (hne : V4 a b c d ≠ R8 M) : Pure Tryz.prog 6 [.isl (byR (M ++ [a, b, c, d]))] (.tup [O4, .int .i64 20]) := by
 have hs := B5c M (by have : 10000000000 ≤ reachBytes := (by decide); omega)
 have hR : (byR (M ++ [a, b, c, d])).length = M.length + 4 := by rw [T8]; simp
 have hS := B0O (M ++ [a, b, c, d])
 have ha : (byR (M ++ [a, b, c, d]))[M.length]? = some [.int .u8 a] := by simp [byR]
 have hb : (byR (M ++ [a, b, c, d]))[M.length + 1]? = some [.int .u8 b] := by simp [byR]
 have hc : (byR (M ++ [a, b, c, d]))[M.length + 2]? = some [.int .u8 c] := by simp [byR]
 have hd : (byR (M ++ [a, b, c, d]))[M.length + 3]? = some [.int .u8 d] := by simp [byR]
 have ht : (byR (M ++ [a, b, c, d])).take M.length = byR M := by simp [byR]
 generalize byR (M ++ [a, b, c, d]) = BR at *
 generalize M.length = L at *
 refine Pure.of 0 (A4.enterK A1B (Nat.le_of_ble_eq_true rfl) fun Q hQ => Run.go 100 ?_)
 have e0 : (L : Int) + 4 - 4 = (L : Int) := by omega
 have e1 : ((L + 4 : Nat) : Int) = (L : Int) + 4 := by omega
 have c5 : ((L : Int) < 5) = False := eq_false (by omega)
 have t1 : ((L : Int) + 1).toNat = L + 1 := by omega
 have t2 : ((L : Int) + 2).toNat = L + 2 := by omega
 have t3 : ((L : Int) + 3).toNat = L + 3 := by omega
 have q0 : ((0 : Int) ≤ (L : Int)) = True := eq_true (by omega)
 have q1 : ((L : Int) < (L : Int) + 4) = True := eq_true (by omega)
 have u0 : (L < L + 4) = True := eq_true (by omega)
 have u1 : (L + 1 < L + 4) = True := eq_true (by omega)
 have u2 : (L + 2 < L + 4) = True := eq_true (by omega)
 have u3 : (L + 3 < L + 4) = True := eq_true (by omega)
 have v1 : ((L : Int) + 1 < (L : Int) + 4) = True := eq_true (by omega)
 have v2 : ((L : Int) + 2 < (L : Int) + 4) = True := eq_true (by omega)
 have v3 : ((L : Int) + 3 < (L : Int) + 4) = True := eq_true (by omega)
 have p1 : ((0 : Int) ≤ (L : Int) + 1) = True := eq_true (by omega)
 have p2 : ((0 : Int) ≤ (L : Int) + 2) = True := eq_true (by omega)
 have p3 : ((0 : Int) ≤ (L : Int) + 3) = True := eq_true (by omega)
 simp -implicitDefEqProofs only [go_sem, B3, hR, hS, e0, e1, c5, t1, t2, t3, q0, q1, u0, u1, u2, u3, v1, v2, v3, p1, p2, p3, ha, hb, hc, hd, Option.some.injEq, forall_eq', Int.toNat_natCast]
 have hsub : ((L : Int) - 0).toNat = L := by omega
 rw [hsub, ht]
 refine ⟨by omega, by omega, by omega, by omega, by omega, A4.pureF hs (by simp -implicitDefEqProofs only [go_sem, A3K]) ?_⟩
 have hne' := eq_false hne
 unfold V4 at hne'
 simp -implicitDefEqProofs only [go_sem, hne']
 subst hQ
 exact .is rfl
def C6t : Ins := ⟨18, 0, 0, 0, 0⟩
def B2i : Fn := ⟨[109, 97, 105, 110], 0, 0, true, 1, [C6t], [1], [], [], [], []⟩
def i5 (a b c d e : Int) : List V := [.int .i64 a, .int .i64 b, .int .i64 c, .int .i64 d, .int .i64 e]
def U4 : List V := [.str [109, 97, 105, 110], .int .i64 0, .int .i64 0, .bool true, .int .i64 1, .isl [i5 18 0 0 0 0], .isl [[.int .i64 1]], .isl [], .isl [], .isl [], .isl []]
theorem C0d : B2i.row = U4 := by rw [Fn.row_eq]; rfl
def n8 (n : Nat) : List Nat := [n, 0, 0, 0, 0, 0, 0, 0]
def B9j (l : List Nat) : List (List V) := l.map fun (n : Nat) => [V.int .u8 (n : Int)]
def C0x : List Nat := n8 4 ++ [109, 97, 105, 110] ++ n8 0 ++ n8 0 ++ [1] ++ n8 1 ++ n8 1 ++ n8 18 ++ n8 0 ++ n8 0 ++ n8 0 ++ n8 0 ++ n8 1 ++ n8 1 ++ n8 0 ++ n8 0 ++ n8 0 ++ n8 0
def D1k : List Nat := [236, 73, 49, 172]
def C3F : List Nat := [83, 67, 82, 66, 1] ++ C0x ++ D1k
def B5z (T : List (FuncId × List V × V)) (lib : I3) : I3 := fun f xs h n => find f xs h n T
where
 find (f : FuncId) (xs : List V) (h : A2) (n : Nat) : List (FuncId × List V × V) → K8
  | [] => lib f xs h n
  | e :: r => bif Nat.beq e.1 f && V.beqL e.2.1 xs then E0 e.2.2 h n else find f xs h n r
theorem B6i {T : List (FuncId × List V × V)} {lib : I3} (hT : ∀ e ∈ T, Abs.Pure Tryz.prog e.1 e.2.1 e.2.2 ∧ e.2.1.map (V.sub J2) = e.2.1) (hl : G7 Tryz.prog lib) : G7 Tryz.prog (B5z T lib) := by
 intro f xs h n k hg
 have key : ∀ T' : List (FuncId × List V × V), (∀ e ∈ T', e ∈ T) → Go.Abs.Good (B5z.find lib f xs h n T') k → A4 Tryz.prog f xs h n k := by
  intro T'
  induction T' with
  | nil => exact fun _ hg => hl f xs h n k hg
  | cons e r ih =>
   intro hm hg
   simp only [B5z.find] at hg
   cases hb : Nat.beq e.1 f && V.beqL e.2.1 xs with
   | false => rw [hb] at hg; exact ih (fun x hx => hm x (List.mem_cons_of_mem _ hx)) hg
   | true =>
    rw [hb, cond_true] at hg
    rw [Bool.and_eq_true] at hb
    obtain ⟨h1, h2⟩ := hT e (hm e List.mem_cons_self)
    rw [← Nat.eq_of_beq_eq_true hb.1, ← V.beqL_eq hb.2]
    exact A4.pure h1 h2 hg.one
 exact key T (fun _ h => h) hg
theorem B9J : A1k B2i = 0 := by decide +kernel
theorem B5K : Abs.Pure Tryz.prog 15 [.agg U4] (.int .i64 0) := by
 have hb : B2i.bd := by
  intro q hq
  rw [Fn.each_eq] at hq
  obtain rfl := List.mem_singleton.1 (show q ∈ [B2i] from hq)
  exact ⟨by decide, by decide, by decide, by decide, by decide, by decide⟩
 have h := A5s B2i hb (by rw [Fn.depth_eq]; decide)
 rw [B9J, C0d] at h
 exact h
theorem B7K : Abs.Pure Tryz.prog 11 [] (.agg U4) :=
 Pure.execB (m := 20000) (d := 20) (fr := 1) A3G A0C (by kernel_rfl)
theorem B6e : Abs.Pure Tryz.prog 14 [.isl (B9j C0x)] (.tup [.agg U4, .int .i64 0]) :=
 Pure.execB (m := 20000) (d := 20) (fr := 1) A3G A0C (by kernel_rfl)
theorem B9E : Abs.Pure Tryz.prog 9 [.agg U4, .agg U4] (.bool true) :=
 Pure.execB (m := 20000) (d := 20) (fr := 1) A3G A0C (by kernel_rfl)
def D1q : I3 := B5z [(15, [.agg U4], .int .i64 0), (14, [.isl (B9j C0x)], .tup [.agg U4, .int .i64 0])] B8w
theorem B8k : G7 Tryz.prog D1q := B6i (fun e he => by
 simp only [List.mem_cons, List.not_mem_nil, or_false] at he
 rcases he with rfl | rfl
 ·exact ⟨B5K, rfl⟩
 ·exact ⟨B6e, rfl⟩) A0C
theorem C2l : Abs.Pure Tryz.prog 10 [.agg U4] (.tup [.isl (B9j C3F), .int .i64 0]) :=
 Pure.execB (m := 20000) (d := 20) (fr := 1) A3G B8k (by kernel_rfl)
theorem C1K : Abs.Pure Tryz.prog 6 [.isl (B9j C3F)] (.tup [.agg U4, .int .i64 0]) :=
 Pure.execB (m := 20000) (d := 20) (fr := 1) A3G B8k (by kernel_rfl)
def D1o : I3 := B5z [
 (11, [], .agg U4),
 (10, [.agg U4], .tup [.isl (B9j C3F), .int .i64 0]),
 (6, [.isl (B9j C3F)], .tup [.agg U4, .int .i64 0]),
 (9, [.agg U4, .agg U4], .bool true)] B8w
theorem C3W : G7 Tryz.prog D1o := B6i (fun e he => by
 simp only [List.mem_cons, List.not_mem_nil, or_false] at he
 rcases he with rfl | rfl | rfl | rfl
 ·exact ⟨B7K, rfl⟩
 ·exact ⟨C2l, rfl⟩
 ·exact ⟨C1K, rfl⟩
 ·exact ⟨B9E, rfl⟩) A0C
theorem B7n : Abs.Pure Tryz.prog 4 [] (.bool true) :=
 Pure.execB (m := 20000) (d := 20) (fr := 1) A3G C3W (by kernel_rfl)
-- EV: dW, dB
theorem C3Y (l : List Int) (d : Nat) (h : A2) : (byR l).map (fun r => r.map (frz d h)) = byR l := by
 have e : ∀ a : Int, frz d h (.int .u8 a) = .int .u8 a := fun a => by cases d <;> rfl
 simp [byR, e]
theorem C0t (zs : List Int) (hl : zs.length ≤ reachBytes) : Pure Tryz.prog 13 [.isl (zs.map fun z => [.int .u8 z])] (.int .u32 (R8 zs)) := by
 have hlZ : (zs.map fun z => [V.int .u8 z]).length = zs.length := List.length_map ..
 have hrZ : ∀ (k : Nat) z, zs[k]? = some z → (zs.map fun z => [V.int .u8 z])[k]? = some [.int .u8 z] := fun k x h => by rw [List.getElem?_map, h]; rfl
 have hzZ : C6 (zs.map fun z => [V.int .u8 z]) 1 = True := eq_true (fun r hr => by obtain ⟨y, _, rfl⟩ := List.mem_map.1 hr; rfl)
 generalize (zs.map fun z => [V.int .u8 z]) = ZR at *
 have hrb : reachBytes ≤ 200000000000000 := by decide
 refine Pure.of 0 (A4.enter d6 (Nat.le_of_ble_eq_true rfl) (Run.go 100 ?_))
 simp -implicitDefEqProofs only [go_sem, B3, hlZ]
 refine Run.rounds (fun (k : Nat) => ⟨[(4, .int .i64 k), (3, .int .u32 (R8 (zs.take k))), (0, .isl ZR)], [], 0⟩) (fun k => k ≤ zs.length) (fun k => zs.length - k) 0 (by first | (simp -implicitDefEqProofs only [go_sem]; done) | (simp -implicitDefEqProofs only [go_sem]; simp [R8])) (Nat.zero_le _) ?_
 intro k hk ih
 refine Run.unf A1Z (Run.go 100 ?_)
 by_cases c : (k : Int) < zs.length
 ·obtain ⟨z, hz⟩ : ∃ z, zs[k]? = some z := ⟨zs[k]'(by omega), by simp⟩
  have hzr := hrZ k z hz
  have k0 : ((0 : Int) ≤ (k : Int)) = True := eq_true (by omega)
  have k2 : (k < zs.length) = True := eq_true (by omega)
  have hn := B2P hz
  unfold n9 at hn
  simp -implicitDefEqProofs only [go_sem, c, k0, k2, hlZ, hzZ, hzr, Option.some.injEq, forall_eq']
  exact ⟨by omega, ih _ (k + 1) (by omega) (by omega) (by first | (simp -implicitDefEqProofs only [go_sem, hn]; done) | (simp -implicitDefEqProofs only [go_sem, hn]; simp))⟩
 ·obtain rfl : k = zs.length := by omega
  rw [List.take_length]
  simp -implicitDefEqProofs only [go_sem, c, hlZ]
end Go.Proofs.YtilggmmkmegefaaGreatDoor
