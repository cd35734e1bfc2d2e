/-
  Functions at the limits. No condition.
-/
import Derived.Test.YtkibfcnieamdoaaGreatDoorFnMb
set_option linter.unusedVariables false
set_option linter.unusedSimpArgs false
set_option maxRecDepth 100000
set_option maxHeartbeats 0
namespace Go.Proofs.YtkibfcnieamdoaaGreatDoor
open Go.Abs
theorem firstNZ_iff : ∀ {l : List Int}, firstNZ l = 0 ↔ ∀ x ∈ l, x = 0
  | [] => by simp [firstNZ]
  | x :: r => by
    rw [firstNZ]
    split
    · rename_i h; rw [firstNZ_iff, List.forall_mem_cons]; simp [h]
    · rename_i h; rw [List.forall_mem_cons]; simp [h]
theorem chkE_iff (p : Fn) : chkE p = 0 ↔ p.depth ≤ 64 ∧ ∀ q ∈ p.each, sglE q = 0 := by
  unfold chkE chkAll
  split
  · rename_i h; constructor
    · intro h; omega
    · intro h; omega
  · rename_i h
    rw [firstNZ_iff]
    simp only [List.mem_map, forall_exists_index, and_imp, forall_apply_eq_imp_iff₂]
    exact ⟨fun h2 => ⟨by omega, h2⟩, fun h2 => h2.2⟩
def retI : Ins := ⟨18, 0, 0, 0, 0⟩
def plainF (name : List UInt8) (regs : Int) (consts : List Kst) (protos : List Fn) (ups : List Upv) : Fn := ⟨name, 0, 0, false, regs, [retI], [], consts, protos, ups, []⟩
theorem chk_ret : chk retI = 0 := by decide
theorem instE_plain {name : List UInt8} {regs : Int} {consts : List Kst} {protos : List Fn} {ups : List Upv} (h0 : 0 ≤ regs) : instE (plainF name regs consts protos ups) retI = 0 := by
  unfold instE
  rw [if_neg (by rw [chk_ret]; simp)]
  refine if_pos ⟨?_, ?_, ?_, ?_⟩
  · have : reads retI = ([], -1) := by decide
    rw [this]
    have h : (-1 : Int) ≤ regs := by omega
    simp [withinB, plainF, h]
  · have : writes retI = ([], -1) := by decide
    rw [this]
    have h : (-1 : Int) ≤ regs := by omega
    simp [withinB, plainF, h]
  · intro h
    have h' : isJump retI.op = false := by decide
    rw [h'] at h; cases h
  · have h : ¬ (consts.length : Int) ≤ -1 := by omega
    simp [refersB, constI, retI, plainF, h]
end Go.Proofs.YtkibfcnieamdoaaGreatDoor
