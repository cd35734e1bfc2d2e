/-
  The chapter's examples: what each function answers on them, by running it. No condition.
-/
import Derived.Test.YtabdlpfhfmeppaaGreatDoorFnMb
import Derived.Test.YtabdlpfhfmeppaaGreatDoorCode
import Derived.Test.YtabdlpfhfmeppaaGreatDoorDmCP
set_option linter.unusedVariables false
set_option linter.unusedSimpArgs false
set_option maxRecDepth 1000000
set_option maxHeartbeats 0
namespace Go.Proofs.YtabdlpfhfmeppaaGreatDoor
open Go.Abs
attribute [local irreducible] CallS Run
def smallI : Ins := ⟨18, 0, 0, 0, 0⟩
def smallF : Fn := ⟨[109, 97, 105, 110], 0, 0, true, 1, [smallI], [1], [], [], [], []⟩
def i5 (a b c d e : Int) : List V := [.int .i64 a, .int .i64 b, .int .i64 c, .int .i64 d, .int .i64 e]
def smallR : List V := [.str [109, 97, 105, 110], .int .i64 0, .int .i64 0, .bool true, .int .i64 1, .isl [i5 18 0 0 0 0], .isl [[.int .i64 1]], .isl [], .isl [], .isl [], .isl []]
theorem small_row : smallF.row = smallR := by rw [Fn.row_eq]; rfl
def n8 (n : Nat) : List Nat := [n, 0, 0, 0, 0, 0, 0, 0]
def bytV (l : List Nat) : List (List V) := l.map fun (n : Nat) => [V.int .u8 (n : Int)]
def bodyL : List Nat := n8 4 ++ [109, 97, 105, 110] ++ n8 0 ++ n8 0 ++ [1] ++ n8 1 ++ n8 1 ++ n8 18 ++ n8 0 ++ n8 0 ++ n8 0 ++ n8 0 ++ n8 1 ++ n8 1 ++ n8 0 ++ n8 0 ++ n8 0 ++ n8 0
def sumL : List Nat := [236, 73, 49, 172]
def allL : List Nat := [83, 67, 82, 66, 1] ++ bodyL ++ sumL
def libOf (T : List (FuncId × List V × V)) (lib : Caller) : Caller := fun f xs h n => find f xs h n T
where
  find (f : FuncId) (xs : List V) (h : Heap) (n : Nat) : List (FuncId × List V × V) → Outs
    | [] => lib f xs h n
    | e :: r => bif Nat.beq e.1 f && V.beqL e.2.1 xs then oneO e.2.2 h n else find f xs h n r
theorem libOf_ok {T : List (FuncId × List V × V)} {lib : Caller} (hT : ∀ e ∈ T, Abs.Pure Tryz.prog e.1 e.2.1 e.2.2 ∧ e.2.1.map (V.sub lost) = e.2.1) (hl : CallerOK Tryz.prog lib) : CallerOK Tryz.prog (libOf T lib) := by
  intro f xs h n k hg
  have key : ∀ T' : List (FuncId × List V × V), (∀ e ∈ T', e ∈ T) → Go.Abs.Good (libOf.find lib f xs h n T') k → CallS Tryz.prog f xs h n k := by
    intro T'
    induction T' with
    | nil => exact fun _ hg => hl f xs h n k hg
    | cons e r ih =>
      intro hm hg
      simp only [libOf.find] at hg
      cases hb : Nat.beq e.1 f && V.beqL e.2.1 xs with
      | false => rw [hb] at hg; exact ih (fun x hx => hm x (List.mem_cons_of_mem _ hx)) hg
      | true =>
        rw [hb, cond_true] at hg
        rw [Bool.and_eq_true] at hb
        obtain ⟨h1, h2⟩ := hT e (hm e List.mem_cons_self)
        rw [← Nat.eq_of_beq_eq_true hb.1, ← V.beqL_eq hb.2]
        exact CallS.pure h1 h2 hg.one
  exact key T (fun _ h => h) hg
theorem small_chk : chkE smallF = 0 := by decide +kernel
theorem small_check : Abs.Pure Tryz.prog 14 [.agg smallR] (.int .i64 0) := by
  have hb : smallF.bd := by
    intro q hq
    rw [Fn.each_eq] at hq
    obtain rfl := List.mem_singleton.1 (show q ∈ [smallF] from hq)
    exact ⟨by decide, by decide, by decide, by decide, by decide, by decide⟩
  have h := pcheck_pure smallF hb (by rw [Fn.depth_eq]; decide)
  rw [small_chk, small_row] at h
  exact h
theorem small_pure : Abs.Pure Tryz.prog 10 [] (.agg smallR) :=
  Pure.execB (m := 20000) (d := 20) (fr := 1) exT_ok noLib_ok (by kernel_rfl)
theorem decode_pure : Abs.Pure Tryz.prog 21 [.isl (bytV bodyL)] (.tup [.agg smallR, .int .i64 0]) :=
  Pure.execB (m := 20000) (d := 20) (fr := 1) exT_ok noLib_ok (by kernel_rfl)
theorem same_pure : Abs.Pure Tryz.prog 12 [.agg smallR, .agg smallR] (.bool true) :=
  Pure.execB (m := 20000) (d := 20) (fr := 1) exT_ok noLib_ok (by kernel_rfl)
def libC : Caller := libOf [(14, [.agg smallR], .int .i64 0), (21, [.isl (bytV bodyL)], .tup [.agg smallR, .int .i64 0])] noLib
theorem libC_ok : CallerOK Tryz.prog libC := libOf_ok (fun e he => by
  simp only [List.mem_cons, List.not_mem_nil, or_false] at he
  rcases he with rfl | rfl
  · exact ⟨small_check, rfl⟩
  · exact ⟨decode_pure, rfl⟩) noLib_ok
theorem put_pure : Abs.Pure Tryz.prog 6 [.agg smallR] (.tup [.isl (bytV allL), .int .i64 0]) :=
  Pure.execB (m := 20000) (d := 20) (fr := 1) exT_ok libC_ok (by kernel_rfl)
theorem get_pure : Abs.Pure Tryz.prog 11 [.isl (bytV allL)] (.tup [.agg smallR, .int .i64 0]) :=
  Pure.execB (m := 20000) (d := 20) (fr := 1) exT_ok libC_ok (by kernel_rfl)
def libW : Caller := libOf [
  (10, [], .agg smallR),
  (6, [.agg smallR], .tup [.isl (bytV allL), .int .i64 0]),
  (11, [.isl (bytV allL)], .tup [.agg smallR, .int .i64 0]),
  (12, [.agg smallR, .agg smallR], .bool true)] noLib
theorem libW_ok : CallerOK Tryz.prog libW := libOf_ok (fun e he => by
  simp only [List.mem_cons, List.not_mem_nil, or_false] at he
  rcases he with rfl | rfl | rfl | rfl
  · exact ⟨small_pure, rfl⟩
  · exact ⟨put_pure, rfl⟩
  · exact ⟨get_pure, rfl⟩
  · exact ⟨same_pure, rfl⟩) noLib_ok
theorem awake_pure : Abs.Pure Tryz.prog 5 [] (.bool true) :=
  Pure.execB (m := 20000) (d := 20) (fr := 1) exT_ok libW_ok (by kernel_rfl)
theorem rsum_pure (zs : List Int) (hl : zs.length ≤ reachBytes) : Pure Tryz.prog 19 [.isl (zs.map fun z => [.int .u8 z])] (.int .u32 (sumZ zs)) := by
  have hlZ : (zs.map fun z => [V.int .u8 z]).length = zs.length := List.length_map ..
  have hrZ : ∀ (k : Nat) z, zs[k]? = some z → (zs.map fun z => [V.int .u8 z])[k]? = some [.int .u8 z] := fun k x h => by rw [List.getElem?_map, h]; rfl
  have hzZ : rowsz (zs.map fun z => [V.int .u8 z]) 1 = True := eq_true (fun r hr => by obtain ⟨y, _, rfl⟩ := List.mem_map.1 hr; rfl)
  generalize (zs.map fun z => [V.int .u8 z]) = ZR at *
  have hrb : reachBytes ≤ 200000000000000 := by decide
  refine Pure.of 0 (CallS.enter scriptingref40_Sum_ok (Nat.le_of_ble_eq_true rfl) (Run.go 100 ?_))
  simp -implicitDefEqProofs only [go_sem, initSl, hlZ]
  refine Run.rounds (fun (k : Nat) => ⟨[(4, .int .i64 k), (3, .int .u32 (sumZ (zs.take k))), (0, .isl ZR)], [], 0⟩) (fun k => k ≤ zs.length) (fun k => zs.length - k) 0 (by first | (simp -implicitDefEqProofs only [go_sem]; done) | (simp -implicitDefEqProofs only [go_sem]; simp [sumZ])) (Nat.zero_le _) ?_
  intro k hk ih
  refine Run.unf scriptingref40_Sum_l0_eq (Run.go 100 ?_)
  by_cases c : (k : Int) < zs.length
  · obtain ⟨z, hz⟩ : ∃ z, zs[k]? = some z := ⟨zs[k]'(by omega), by simp⟩
    have hzr := hrZ k z hz
    have k0 : ((0 : Int) ≤ (k : Int)) = True := eq_true (by omega)
    have k2 : (k < zs.length) = True := eq_true (by omega)
    have hn := sumZ_next hz
    unfold stepZ at hn
    simp -implicitDefEqProofs only [go_sem, c, k0, k2, hlZ, hzZ, hzr, Option.some.injEq, forall_eq']
    exact ⟨by omega, ih _ (k + 1) (by omega) (by omega) (by first | (simp -implicitDefEqProofs only [go_sem, hn]; done) | (simp -implicitDefEqProofs only [go_sem, hn]; simp))⟩
  · obtain rfl : k = zs.length := by omega
    rw [List.take_length]
    simp -implicitDefEqProofs only [go_sem, c, hlZ]
end Go.Proofs.YtabdlpfhfmeppaaGreatDoor
