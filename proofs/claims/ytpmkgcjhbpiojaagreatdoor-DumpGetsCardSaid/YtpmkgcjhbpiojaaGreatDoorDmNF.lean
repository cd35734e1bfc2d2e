/-
 What the writer of numbers, truths, texts and values puts behind its bytes. No condition.
-/
import Derived.Test.YtpmkgcjhbpiojaaGreatDoorFn
import Derived.Test.YtpmkgcjhbpiojaaGreatDoorCode
import Derived.Test.YtpmkgcjhbpiojaaGreatDoorFnCk
set_option linter.unusedVariables false
set_option linter.unusedSimpArgs false
set_option maxRecDepth 100000
set_option maxHeartbeats 0
namespace Go.Proofs.YtpmkgcjhbpiojaaGreatDoor
open Go.Abs
attribute [local irreducible] A3 Run
abbrev dW : Nat := (9 * 10000 + 15)
abbrev dB : Nat := (9 * 10000 + 12)
-- EV: dW, dB
def byR (l : List Int) : List (List V) := l.map fun z => [.int .u8 z]
theorem G4 (l : List Int) : (byR l).length = l.length := List.length_map ..
theorem A5a (l : List Int) : C4 (byR l) 1 = True := eq_true (fun r hr => by obtain ⟨y, _, rfl⟩ := List.mem_map.1 hr; rfl)
theorem C1i (l : List Int) (z : Int) : byR (l ++ [z]) = byR l ++ [[.int .u8 z]] := by simp [byR]
theorem B2z (l : List Int) : (byR l).take l.length = byR l := List.take_of_length_le (by rw [G4]; exact Nat.le_refl _)
def uN (z : Int) : Nat → Int
 | 0 => IntKind.u64.wrap z
 | k + 1 => shZ false .u64 (uN z k) 8
def A1B (z : Int) : Nat → List Int
 | 0 => []
 | k + 1 => A1B z k ++ [IntKind.u8.wrap (uN z k)]
def Y4 (z : Int) : List Int := A1B z 8
theorem A8S (z : Int) : ∀ k, (A1B z k).length = k
 | 0 => rfl
 | k + 1 => by rw [A1B, List.length_append, A8S z k]; rfl
def B3U (s : List UInt8) : List Int := Y4 s.length ++ s.map fun u => (u.toNat : Int)
theorem C3U (a b : List Int) : byR (a ++ b) = byR a ++ byR b := by simp [byR]
theorem A5V (z : Int) : (Y4 z).length = 8 := A8S z 8
def B7B (v : Kst) : List Int := [IntKind.u8.wrap v.kind] ++ (if v.kind = 1 then [if v.ref = 1 then 1 else 0] else if v.kind = 2 then Y4 v.p ++ Y4 v.q else if v.kind = 3 then B3U v.str else [])
def A3Y (l : List Int) : List Int := l.flatMap Y4
theorem B1B : ∀ l : List Int, (A3Y l).length = 8 * l.length
 | [] => rfl
 | z :: r => by
  have := B1B r
  unfold A3Y at this ⊢
  rw [List.flatMap_cons, List.length_append, this, A5V, List.length_cons]
  omega
def B5m (i : Ins) : List Int := [i.op, i.a, i.b, i.c, i.d]
def C9B (v : Vr) : List Int := [v.reg, v.lo, v.hi, v.attr]
def upL (u : Upv) : List Int := B3U u.name ++ [if u.loc then 1 else 0] ++ Y4 u.idx
def vrL (v : Vr) : List Int := B3U v.name ++ A3Y (C9B v)
mutual
def A7n : Fn → List Int
 | ⟨name, line, params, vararg, regs, code, lines, consts, l, ups, vars⟩ =>
  B3U name ++ Y4 line ++ Y4 params ++ [if vararg then 1 else 0] ++ Y4 regs ++ Y4 code.length ++ code.flatMap (fun i => A3Y (B5m i)) ++ Y4 lines.length ++ A3Y lines ++ Y4 consts.length ++ consts.flatMap B7B ++ Y4 l.length ++ encL l ++ Y4 ups.length ++ ups.flatMap upL ++ Y4 vars.length ++ vars.flatMap vrL
def encL : List Fn → List Int
 | [] => []
 | q :: r => A7n q ++ encL r
end
theorem A8P (p : Fn) : A7n p = B3U p.name ++ Y4 p.line ++ Y4 p.params ++ [if p.vararg then 1 else 0] ++ Y4 p.regs ++ Y4 p.code.length ++ p.code.flatMap (fun i => A3Y (B5m i)) ++ Y4 p.lines.length ++ A3Y p.lines ++ Y4 p.consts.length ++ p.consts.flatMap B7B ++ Y4 p.protos.length ++ encL p.protos ++ Y4 p.ups.length ++ p.ups.flatMap upL ++ Y4 p.vars.length ++ p.vars.flatMap vrL := by
 obtain ⟨a, b, c, d, e, f, g, h, i, j, k⟩ := p
 rw [A7n]
theorem A7h : ∀ l : List Fn, encL l = l.flatMap A7n
 | [] => rfl
 | q :: r => by rw [encL, A7h r]; rfl
theorem Y5 {α : Type} {f : α → List Int} (hf : ∀ x, 1 ≤ (f x).length) : ∀ l : List α, l.length ≤ (l.flatMap f).length
 | [] => Nat.zero_le _
 | x :: r => by
  have := Y5 hf r
  have := hf x
  rw [List.flatMap_cons, List.length_append, List.length_cons]
  omega
end Go.Proofs.YtpmkgcjhbpiojaaGreatDoor
