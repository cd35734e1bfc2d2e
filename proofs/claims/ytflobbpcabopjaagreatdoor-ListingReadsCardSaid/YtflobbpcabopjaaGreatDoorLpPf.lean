/-
 ListingReads: the law returns true, whatever the text. No condition.
-/
import Derived.Test.YtflobbpcabopjaaGreatDoorLpPt
set_option linter.unusedVariables false set_option linter.unusedSimpArgs false set_option maxRecDepth 100000
set_option maxHeartbeats 0
namespace Go.Proofs.YtflobbpcabopjaaGreatDoor
section
open Go Go.Abs
attribute [local irreducible] A0 Run
theorem readsAny(s:List UInt8):Abs.Pure Tryz.prog 4 [.str s] (.bool true):=by
 by_cases hs:s.length≤1000000000
 ·exact C7s s hs
 have q1:((20000:Int)<(s.length:Int))=True:=eq_true (by omega)
 refine Pure.of 0 (A0.enter D6 (Nat.le_of_ble_eq_true rfl) (Run.go 100 ?_))
 simp -implicitDefEqProofs only [go_sem,A3,q1]
 refine A0.pureF B0C rfl ?_
 simp -implicitDefEqProofs only [go_sem]
end
end Go.Proofs.YtflobbpcabopjaaGreatDoor
