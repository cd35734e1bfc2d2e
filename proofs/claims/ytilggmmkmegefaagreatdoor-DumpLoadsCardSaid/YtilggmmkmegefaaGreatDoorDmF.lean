/-
 What the writer of functions puts behind its bytes. No condition.
-/
import Derived.Test.YtilggmmkmegefaaGreatDoorDmN
import Derived.Test.YtilggmmkmegefaaGreatDoorFnCk
set_option linter.unusedVariables false
set_option linter.unusedSimpArgs false
set_option maxRecDepth 100000
set_option maxHeartbeats 0
namespace Go.Proofs.YtilggmmkmegefaaGreatDoor
open Go.Abs
attribute [local irreducible] A4 Run
def A3d (l : List Int) : List Int := l.flatMap U0
theorem B1f : ∀ l : List Int, (A3d l).length = 8 * l.length
 | [] => rfl
 | z :: r => by
  have := B1f r
  unfold A3d at this ⊢
  rw [List.flatMap_cons, List.length_append, this, A5E, List.length_cons]
  omega
def B6w (i : Ins) : List Int := [i.op, i.a, i.b, i.c, i.d]
def C9K (v : Vr) : List Int := [v.reg, v.lo, v.hi, v.attr]
def upL (u : Upv) : List Int := B4k u.name ++ [if u.loc then 1 else 0] ++ U0 u.idx
def vrL (v : Vr) : List Int := B4k v.name ++ A3d (C9K v)
mutual
def A6z : Fn → List Int
 | ⟨name, line, params, vararg, regs, code, lines, consts, l, ups, vars⟩ =>
  B4k name ++ U0 line ++ U0 params ++ [if vararg then 1 else 0] ++ U0 regs ++ U0 code.length ++ code.flatMap (fun i => A3d (B6w i)) ++ U0 lines.length ++ A3d lines ++ U0 consts.length ++ consts.flatMap B7g ++ U0 l.length ++ encL l ++ U0 ups.length ++ ups.flatMap upL ++ U0 vars.length ++ vars.flatMap vrL
def encL : List Fn → List Int
 | [] => []
 | q :: r => A6z q ++ encL r
end
theorem A8B (p : Fn) : A6z p = B4k p.name ++ U0 p.line ++ U0 p.params ++ [if p.vararg then 1 else 0] ++ U0 p.regs ++ U0 p.code.length ++ p.code.flatMap (fun i => A3d (B6w i)) ++ U0 p.lines.length ++ A3d p.lines ++ U0 p.consts.length ++ p.consts.flatMap B7g ++ U0 p.protos.length ++ encL p.protos ++ U0 p.ups.length ++ p.ups.flatMap upL ++ U0 p.vars.length ++ p.vars.flatMap vrL := by
 obtain ⟨a, b, c, d, e, f, g, h, i, j, k⟩ := p
 rw [A6z]
theorem A6f : ∀ l : List Fn, encL l = l.flatMap A6z
 | [] => rfl
 | q :: r => by rw [encL, A6f r]; rfl
theorem U2 {α : Type} {f : α → List Int} (hf : ∀ x, 1 ≤ (f x).length) : ∀ l : List α, l.length ≤ (l.flatMap f).length
 | [] => Nat.zero_le _
 | x :: r => by
  have := U2 hf r
  have := hf x
  rw [List.flatMap_cons, List.length_append, List.length_cons]
  omega
end Go.Proofs.YtilggmmkmegefaaGreatDoor
