/-
 DumpGets: Get answers what the reference answers. No condition.
-/
import Derived.Test.YtpmkgcjhbpiojaaGreatDoorDmEw
import Derived.Test.YtpmkgcjhbpiojaaGreatDoorDmPS
import Derived.Test.YtpmkgcjhbpiojaaGreatDoorFnQS
set_option linter.unusedVariables false
set_option linter.unusedSimpArgs false
set_option maxRecDepth 100000
set_option maxHeartbeats 0
namespace Go.Proofs.YtpmkgcjhbpiojaaGreatDoor
open Go Go.Abs
attribute [local irreducible] A3 C2 Run
theorem B6f (p : Fn) : (B5u p).length = (A7n p).length + 9 := by
 unfold B5u B5d
 simp [le4]
def B6W : Fn := ⟨[], 0, 0, false, 0, [], [], [], [], [], []⟩
theorem B2D (zs : List Int) (lz : zs.length ≤ reachBytes) (wz : ∀ z ∈ zs, (Lit.int .u8 z).wf = true) (sb : Bool) : Pure Tryz.prog 3 [.isl (zs.map fun z => [.int .u8 z]), .bool sb] (.bool true) := by
 have aw := B7R
 have hB0 : K3 zs := C2s wz
 have hz0 : Pure Tryz.prog 8 [.agg [.str [], .int .i64 0, .int .i64 0, .bool false, .int .i64 0, .isl [], .isl [], .isl [], .isl [], .isl [], .isl []], .agg [.str [], .int .i64 0, .int .i64 0, .bool false, .int .i64 0, .isl [], .isl [], .isl [], .isl [], .isl [], .isl []]] (.bool true) := by
  have hbd : B6W.bd := B4l (by decide +kernel)
  have h := A8m B6W B6W hbd hbd (by decide +kernel) (by decide +kernel)
  rw [A7m rfl, Fn.row_eq] at h
  exact h
 rw [show (zs.map fun z => [V.int .u8 z]) = byR zs from rfl]
 have hR := G4 zs
 refine Pure.of 0 (A3.enter S6 (Nat.le_of_ble_eq_true rfl) (Run.go 100 ?_))
 by_cases c : (100000 : Int) < zs.length
 ·simp -implicitDefEqProofs only [go_sem, A8, hR, c]
  refine A3.pureF aw rfl ?_
  simp -implicitDefEqProofs only [go_sem]
 have hg : G1 zs := ⟨hB0, by omega⟩
 have hgs : G1 (zs ++ le4 (O4 zs)) := ⟨hB0.app C1r, by simp [le4]; omega⟩
 have hlen : zs.length ≤ 100000 := by omega
 have hse := B6c zs (by omega)
 cases sb
 ·simp -implicitDefEqProofs only [go_sem, A8, hR, c]
  have hMs := A1W (zs)
  rcases Nat.lt_or_ge (zs).length 9 with h9 | h9
  ·refine A3.pureF (B3u _ h9) (by simp -implicitDefEqProofs only [go_sem, hMs]) ?_
   simp -implicitDefEqProofs only [go_sem, A1m]
   refine A3.pureF (B1m _ h9) (by simp -implicitDefEqProofs only [go_sem, hMs]) ?_
   simp -implicitDefEqProofs only [go_sem, A1m]
   refine A3.pureF hz0 (by simp -implicitDefEqProofs only [go_sem]) ?_
   simp -implicitDefEqProofs only [go_sem]
   refine A3.pureF aw rfl ?_
   simp -implicitDefEqProofs only [go_sem]
  obtain ⟨L, a, b, cc, d, eM, h5, hgL, hB⟩ := C1P hg h9
  have hLz := congrArg List.length eM
  simp [le4] at hLz
  rw [eM] at hMs ⊢
  refine A3.pureF (B5F L a b cc d h5 hgL) (by simp -implicitDefEqProofs only [go_sem, hMs]) ?_
  cases hG : B1C L a b cc d with
  | error e =>
   have hrg := A7a L a b cc d h5 hgL (by omega) hB
   rw [hG] at hrg
   simp -implicitDefEqProofs only [go_sem, B0R, A1m]
   refine A3.pureF hrg (by simp -implicitDefEqProofs only [go_sem, hMs]) ?_
   simp -implicitDefEqProofs only [go_sem, B0R, A1m]
   refine A3.pureF hz0 (by simp -implicitDefEqProofs only [go_sem]) ?_
   simp -implicitDefEqProofs only [go_sem]
   refine A3.pureF aw rfl ?_
   simp -implicitDefEqProofs only [go_sem]
  | ok p =>
   obtain ⟨e1, e2, e3, e4, e5⟩ := B8k hgL hB hG
   have hrg := A7a L a b cc d h5 hgL (by omega) hB
   rw [hG] at hrg
   have hec := A9H p
   have hL2 := congrArg List.length e1
   rw [B6f] at hL2
   simp at hL2
   have hsm := A8m p p e3 e3 (by omega) (by omega)
   rw [A7m rfl] at hsm
   have hps := Fn.row_sub R4 p
   obtain ⟨g1, g2⟩ := C5 p
   simp -implicitDefEqProofs only [go_sem, B0R, g1, g2]
   refine A3.pureF hrg (by simp -implicitDefEqProofs only [go_sem, hMs]) ?_
   simp -implicitDefEqProofs only [go_sem, B0R, g1, g2]
   refine A3.pureF hsm (by simp -implicitDefEqProofs only [go_sem, hps]) ?_
   simp -implicitDefEqProofs only [go_sem]
   refine A3.pureF aw rfl ?_
   simp -implicitDefEqProofs only [go_sem]
 ·simp -implicitDefEqProofs only [go_sem, A8, hR, c]
  refine A3.pureF hse (by simp -implicitDefEqProofs only [go_sem, A1W]) ?_
  simp -implicitDefEqProofs only [go_sem]
  have hMs := A1W (zs ++ le4 (O4 zs))
  rcases Nat.lt_or_ge (zs ++ le4 (O4 zs)).length 9 with h9 | h9
  ·refine A3.pureF (B3u _ h9) (by simp -implicitDefEqProofs only [go_sem, hMs]) ?_
   simp -implicitDefEqProofs only [go_sem, A1m]
   refine A3.pureF (B1m _ h9) (by simp -implicitDefEqProofs only [go_sem, hMs]) ?_
   simp -implicitDefEqProofs only [go_sem, A1m]
   refine A3.pureF hz0 (by simp -implicitDefEqProofs only [go_sem]) ?_
   simp -implicitDefEqProofs only [go_sem]
   refine A3.pureF aw rfl ?_
   simp -implicitDefEqProofs only [go_sem]
  obtain ⟨L, a, b, cc, d, eM, h5, hgL, hB⟩ := C1P hgs h9
  have hLz := congrArg List.length eM
  simp [le4] at hLz
  rw [eM] at hMs ⊢
  refine A3.pureF (B5F L a b cc d h5 hgL) (by simp -implicitDefEqProofs only [go_sem, hMs]) ?_
  cases hG : B1C L a b cc d with
  | error e =>
   have hrg := A7a L a b cc d h5 hgL (by omega) hB
   rw [hG] at hrg
   simp -implicitDefEqProofs only [go_sem, B0R, A1m]
   refine A3.pureF hrg (by simp -implicitDefEqProofs only [go_sem, hMs]) ?_
   simp -implicitDefEqProofs only [go_sem, B0R, A1m]
   refine A3.pureF hz0 (by simp -implicitDefEqProofs only [go_sem]) ?_
   simp -implicitDefEqProofs only [go_sem]
   refine A3.pureF aw rfl ?_
   simp -implicitDefEqProofs only [go_sem]
  | ok p =>
   obtain ⟨e1, e2, e3, e4, e5⟩ := B8k hgL hB hG
   have hrg := A7a L a b cc d h5 hgL (by omega) hB
   rw [hG] at hrg
   have hec := A9H p
   have hL2 := congrArg List.length e1
   rw [B6f] at hL2
   simp at hL2
   have hsm := A8m p p e3 e3 (by omega) (by omega)
   rw [A7m rfl] at hsm
   have hps := Fn.row_sub R4 p
   obtain ⟨g1, g2⟩ := C5 p
   simp -implicitDefEqProofs only [go_sem, B0R, g1, g2]
   refine A3.pureF hrg (by simp -implicitDefEqProofs only [go_sem, hMs]) ?_
   simp -implicitDefEqProofs only [go_sem, B0R, g1, g2]
   refine A3.pureF hsm (by simp -implicitDefEqProofs only [go_sem, hps]) ?_
   simp -implicitDefEqProofs only [go_sem]
   refine A3.pureF aw rfl ?_
   simp -implicitDefEqProofs only [go_sem]
end Go.Proofs.YtpmkgcjhbpiojaaGreatDoor
