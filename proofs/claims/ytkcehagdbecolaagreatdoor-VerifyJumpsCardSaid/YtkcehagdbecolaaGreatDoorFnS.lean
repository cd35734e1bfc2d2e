/-
  Functions without names and lines. No condition.
-/
import Derived.Test.YtkcehagdbecolaaGreatDoorFnCk
set_option linter.unusedVariables false
set_option linter.unusedSimpArgs false
set_option maxRecDepth 100000
set_option maxHeartbeats 0
namespace Go.Proofs.YtkcehagdbecolaaGreatDoor
open Go.Abs
attribute [local irreducible] CallS Run RndS

def Upv.bare (u : Upv) : Upv := ⟨[], u.loc, u.idx⟩
mutual
def Fn.strip : Fn → Fn
  | ⟨_, _, params, vararg, regs, code, _, consts, protos, ups, _⟩ => ⟨[], 0, params, vararg, regs, code, [], consts, Fn.strips protos, ups.map Upv.bare, []⟩
def Fn.strips : List Fn → List Fn
  | [] => []
  | p :: r => Fn.strip p :: Fn.strips r
end
theorem Fn.strips_map : ∀ l : List Fn, Fn.strips l = l.map Fn.strip
  | [] => rfl
  | p :: r => by rw [Fn.strips, Fn.strips_map r]; rfl
theorem Fn.strip_eq (p : Fn) : p.strip = ⟨[], 0, p.params, p.vararg, p.regs, p.code, [], p.consts, p.protos.map Fn.strip, p.ups.map Upv.bare, []⟩ := by
  obtain ⟨a, b, c, d, e, f, g, h, i, j, k⟩ := p
  rw [Fn.strip, Fn.strips_map]
theorem Fn.strip_row (p : Fn) : p.strip.row = [.str [], .int .i64 0, .int .i64 p.params, .bool p.vararg, .int .i64 p.regs, .isl (p.code.map Ins.row), .isl [], .isl (p.consts.map Kst.row), .isl ((p.protos.map Fn.strip).map Fn.row), .isl ((p.ups.map Upv.bare).map Upv.row), .isl []] := by
  rw [Fn.row_eq, Fn.strip_eq]; rfl

theorem take_map_next {α : Type} {f : α → List V} {l : List α} {k : Nat} {x : α} (h : l[k]? = some x) : (l.take (k + 1)).map f = (l.take k).map f ++ [f x] := by
  rw [List.take_add_one, h]; simp

theorem Fn.row_frz (d : Nat) (h : Heap) (p : Fn) : p.row.map (frz d h) = p.row := by
  obtain ⟨φ, e⟩ := frz_eq (d := d) (h := h)
  rw [e]; exact Fn.row_sub φ p
theorem fn_row11' (p : Fn) : p.row.length = 11 ∧ p.row.take 11 = p.row := ⟨p.row_len, List.take_of_length_le (by rw [p.row_len]; exact Nat.le_refl _)⟩

end Go.Proofs.YtkcehagdbecolaaGreatDoor
