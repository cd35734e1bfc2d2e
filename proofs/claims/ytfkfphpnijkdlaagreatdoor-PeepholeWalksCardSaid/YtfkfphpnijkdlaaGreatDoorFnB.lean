/-
 Functions at the limits. No condition.
-/
import Derived.Test.YtfkfphpnijkdlaaGreatDoorFnSW
set_option linter.unusedVariables false
set_option linter.unusedSimpArgs false
set_option maxRecDepth 100000
set_option maxHeartbeats 0
namespace Go.Proofs.YtfkfphpnijkdlaaGreatDoor
open Go.Abs
def retI : Ins := ⟨18, 0, 0, 0, 0⟩
def plainF (name : List UInt8) (regs : Int) (consts : List Kst) (protos : List Fn) (ups : List Upv) : Fn := ⟨name, 0, 0, false, regs, [retI], [], consts, protos, ups, []⟩
theorem chk_ret : chk retI = 0 := by decide
theorem instE_plain {name : List UInt8} {regs : Int} {consts : List Kst} {protos : List Fn} {ups : List Upv} (h0 : 0 ≤ regs) : instE (plainF name regs consts protos ups) retI = 0 := by
 unfold instE
 rw [if_neg (by rw [chk_ret]; simp)]
 refine if_pos ⟨?_, ?_, ?_, ?_⟩
 ·have : reads retI = ([], -1) := by decide
  rw [this]
  have h : (-1 : Int) ≤ regs := by omega
  simp [withinB, plainF, h]
 ·have : writes retI = ([], -1) := by decide
  rw [this]
  have h : (-1 : Int) ≤ regs := by omega
  simp [withinB, plainF, h]
 ·intro h
  have h' : isJump retI.op = false := by decide
  rw [h'] at h; cases h
 ·have h : ¬ (consts.length : Int) ≤ -1 := by omega
  simp [refersB, constI, retI, plainF, h]
end Go.Proofs.YtfkfphpnijkdlaaGreatDoor
