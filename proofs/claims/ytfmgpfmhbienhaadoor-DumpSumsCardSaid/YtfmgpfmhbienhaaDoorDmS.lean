/-
  DumpSums. No condition.
-/
import Derived.Test.YtfmgpfmhbienhaaDoorDmA
set_option linter.unusedVariables false
set_option linter.unusedSimpArgs false
set_option maxRecDepth 100000
set_option maxHeartbeats 0
namespace Go.Proofs.YtfmgpfmhbienhaaDoor
open Go.Abs
attribute [local irreducible] CallS Run

/-- A byte into the checksum. -/
def stepZ (s c : Int) : Int := IntKind.u32.wrap (bitZ .xor .u32 s (IntKind.u32.wrap c) * 16777619)
def sumZ (zs : List Int) : Int := zs.foldl stepZ 2166136261
theorem sumZ_next {zs : List Int} {k : Nat} {z : Int} (h : zs[k]? = some z) : sumZ (zs.take (k + 1)) = stepZ (sumZ (zs.take k)) z := by
  unfold sumZ
  rw [List.take_add_one, h, List.foldl_append]
  rfl
theorem sum_pure (zs : List Int) (hl : zs.length ≤ reachBytes) : Pure Tryd.prog 5 [.isl (zs.map fun z => [.int .u8 z])] (.int .u32 (sumZ zs)) := by
  have hlZ : (zs.map fun z => [V.int .u8 z]).length = zs.length := List.length_map ..
  have hrZ : ∀ (k : Nat) z, zs[k]? = some z → (zs.map fun z => [V.int .u8 z])[k]? = some [.int .u8 z] := fun k x h => by rw [List.getElem?_map, h]; rfl
  have hzZ : rowsz (zs.map fun z => [V.int .u8 z]) 1 = True := eq_true (fun r hr => by obtain ⟨y, _, rfl⟩ := List.mem_map.1 hr; rfl)
  generalize (zs.map fun z => [V.int .u8 z]) = ZR at *
  have hrb : reachBytes ≤ 200000000000000 := by decide
  refine Pure.of 0 (CallS.enter dump_Sum_ok (Nat.le_of_ble_eq_true rfl) (Run.go 100 ?_))
  simp -implicitDefEqProofs only [go_sem, initSl, hlZ]
  refine Run.rounds (fun (k : Nat) => ⟨[(8, .int .i64 k), (7, .int .i64 zs.length), (6, .isl ZR), (3, .int .u32 (sumZ (zs.take k)))], [], 0⟩) (fun k => k ≤ zs.length) (fun k => zs.length - k) 0 (by first | (simp -implicitDefEqProofs only [go_sem]; done) | (simp -implicitDefEqProofs only [go_sem]; simp [sumZ])) (Nat.zero_le _) ?_
  intro k hk ih
  refine Run.unf dump_Sum_l0_eq (Run.go 100 ?_)
  by_cases c : (k : Int) < zs.length
  · obtain ⟨z, hz⟩ : ∃ z, zs[k]? = some z := ⟨zs[k]'(by omega), by simp⟩
    have hzr := hrZ k z hz
    have k0 : ((0 : Int) ≤ (k : Int)) = True := eq_true (by omega)
    have k2 : (k < zs.length) = True := eq_true (by omega)
    have hn := sumZ_next hz
    unfold stepZ at hn
    simp -implicitDefEqProofs only [go_sem, c, k0, k2, hlZ, hzZ, hzr, Option.some.injEq, forall_eq']
    exact ⟨by omega, ih _ (k + 1) (by omega) (by omega) (by first | (simp -implicitDefEqProofs only [go_sem, hn]; done) | (simp -implicitDefEqProofs only [go_sem, hn]; simp))⟩
  · obtain rfl : k = zs.length := by omega
    rw [List.take_length]
    simp -implicitDefEqProofs only [go_sem, c]
theorem rsum_pure (zs : List Int) (hl : zs.length ≤ reachBytes) : Pure Tryd.prog 6 [.isl (zs.map fun z => [.int .u8 z])] (.int .u32 (sumZ zs)) := by
  have hlZ : (zs.map fun z => [V.int .u8 z]).length = zs.length := List.length_map ..
  have hrZ : ∀ (k : Nat) z, zs[k]? = some z → (zs.map fun z => [V.int .u8 z])[k]? = some [.int .u8 z] := fun k x h => by rw [List.getElem?_map, h]; rfl
  have hzZ : rowsz (zs.map fun z => [V.int .u8 z]) 1 = True := eq_true (fun r hr => by obtain ⟨y, _, rfl⟩ := List.mem_map.1 hr; rfl)
  generalize (zs.map fun z => [V.int .u8 z]) = ZR at *
  have hrb : reachBytes ≤ 200000000000000 := by decide
  refine Pure.of 0 (CallS.enter scriptingref40_Sum_ok (Nat.le_of_ble_eq_true rfl) (Run.go 100 ?_))
  simp -implicitDefEqProofs only [go_sem, initSl, hlZ]
  refine Run.rounds (fun (k : Nat) => ⟨[(4, .int .i64 k), (3, .int .u32 (sumZ (zs.take k))), (0, .isl ZR)], [], 0⟩) (fun k => k ≤ zs.length) (fun k => zs.length - k) 0 (by first | (simp -implicitDefEqProofs only [go_sem]; done) | (simp -implicitDefEqProofs only [go_sem]; simp [sumZ])) (Nat.zero_le _) ?_
  intro k hk ih
  refine Run.unf scriptingref40_Sum_l0_eq (Run.go 100 ?_)
  by_cases c : (k : Int) < zs.length
  · obtain ⟨z, hz⟩ : ∃ z, zs[k]? = some z := ⟨zs[k]'(by omega), by simp⟩
    have hzr := hrZ k z hz
    have k0 : ((0 : Int) ≤ (k : Int)) = True := eq_true (by omega)
    have k2 : (k < zs.length) = True := eq_true (by omega)
    have hn := sumZ_next hz
    unfold stepZ at hn
    simp -implicitDefEqProofs only [go_sem, c, k0, k2, hlZ, hzZ, hzr, Option.some.injEq, forall_eq']
    exact ⟨by omega, ih _ (k + 1) (by omega) (by omega) (by first | (simp -implicitDefEqProofs only [go_sem, hn]; done) | (simp -implicitDefEqProofs only [go_sem, hn]; simp))⟩
  · obtain rfl : k = zs.length := by omega
    rw [List.take_length]
    simp -implicitDefEqProofs only [go_sem, c, hlZ]
theorem dumpSums_args (zs : List Int) (lz : zs.length ≤ reachBytes) (wz : ∀ z ∈ zs, (Lit.int .u8 z).wf = true) : Pure Tryd.prog 3 [.isl (zs.map fun z => [.int .u8 z])] (.bool true) := by
  have s1 := sum_pure zs lz
  have s2 := rsum_pure zs lz
  have aw := awake_pure
  have hlZ : (zs.map fun z => [V.int .u8 z]).length = zs.length := List.length_map ..
  have hsZ : (zs.map fun z => [V.int .u8 z]).map (fun r => r.map (V.sub lost)) = zs.map fun z => [V.int .u8 z] := by simp [V.sub]
  generalize (zs.map fun z => [V.int .u8 z]) = ZR at *
  generalize sumZ zs = sz at *
  refine Pure.of 0 (CallS.enter scriptinglaw40_DumpSums_ok (Nat.le_of_ble_eq_true rfl) (Run.go 100 ?_))
  by_cases c : (100000 : Int) < zs.length
  · simp -implicitDefEqProofs only [go_sem, initSl, hlZ, c]
    refine CallS.pureF aw rfl ?_
    simp -implicitDefEqProofs only [go_sem]
  · simp -implicitDefEqProofs only [go_sem, initSl, hlZ, c]
    refine CallS.pureF s1 (by simp -implicitDefEqProofs only [go_sem, hsZ]) ?_
    simp -implicitDefEqProofs only [go_sem]
    refine CallS.pureF s2 (by simp -implicitDefEqProofs only [go_sem, hsZ]) ?_
    simp -implicitDefEqProofs only [go_sem]
    refine CallS.pureF aw rfl ?_
    simp -implicitDefEqProofs only [go_sem]
end Go.Proofs.YtfmgpfmhbienhaaDoor
