/-
  An accepted function that is spoilt at one place. No condition.
-/
import Derived.Test.YtmhbbaheponmoaaDoorFnW
set_option linter.unusedVariables false
set_option linter.unusedSimpArgs false
set_option maxRecDepth 100000
set_option maxHeartbeats 0
namespace Go.Proofs.YtmhbbaheponmoaaDoor
open Go.Abs

theorem chk_046 (i : Ins) : chk i = 0 ∨ chk i = 4 ∨ chk i = 6 := by
  unfold chk
  split
  · exact .inr (.inl rfl)
  simp only
  split
  · exact .inr (.inl rfl)
  split
  · exact .inr (.inr rfl)
  split
  · exact .inr (.inr rfl)
  · exact .inl rfl

def badIs (p : Fn) : List Ins := [⟨2, 0, p.consts.length, 0, 0⟩, ⟨22, 0, p.protos.length, 0, 0⟩, ⟨1, 0, p.regs, 0, 0⟩, ⟨14, 0, p.code.length, 0, 0⟩, ⟨5, 0, p.ups.length, 0, 0⟩, ⟨29, 2, 0, 0, 0⟩, ⟨0, 0, 0, 0, 0⟩]
theorem instE_bad {p : Fn} {x : Ins} (hx : x ∈ badIs p) : instE p x = 4 ∨ instE p x = 6 := by
  unfold instE
  by_cases hc : chk x = 0
  case neg =>
    rw [if_pos hc]
    have := chk_046 x
    omega
  rw [if_neg (by simpa using hc)]
  left
  refine if_neg ?_
  rintro ⟨h1, h2, h3, h4⟩
  simp only [badIs, List.mem_cons, List.not_mem_nil, or_false] at hx
  rcases hx with rfl | rfl | rfl | rfl | rfl | rfl | rfl
  · simp [refersB, constI] at h4
  · simp [refersB, constI] at h4
  · simp [withinB, reads, hc, rds] at h1
  · have := (h3 (by simp [isJump])).2
    simp at this
  · simp [refersB, constI] at h4
  · revert hc; decide
  · revert hc; decide

def Fn.spoil (p : Fn) (k : Nat) (x : Ins) : Fn := ⟨p.name, p.line, p.params, p.vararg, p.regs, p.code.set k x, p.lines, p.consts, p.protos, p.ups, p.vars⟩
theorem instE_spoil (p : Fn) (k : Nat) (x i : Ins) : instE (p.spoil k x) i = instE p i := by
  have h1 : refersB (p.spoil k x) i = refersB p i := rfl
  have h2 : (p.spoil k x).code.length = p.code.length := List.length_set ..
  unfold instE
  rw [h1, h2]
  rfl
theorem limE_spoil (p : Fn) (k : Nat) (x : Ins) : limE (p.spoil k x) = limE p := by simp [limE, Fn.spoil]
theorem formE_spoil (p : Fn) (k : Nat) (x : Ins) : formE (p.spoil k x) = formE p := by simp [formE, Fn.spoil]
theorem Fn.depth_spoil (p : Fn) (k : Nat) (x : Ins) : (p.spoil k x).depth = p.depth := by rw [Fn.depth_eq, Fn.depth_eq]; rfl
theorem firstNZ_set {l : List Ins} {f : Ins → Int} {k : Nat} {x : Ins} (h : ∀ y ∈ l, f y = 0) (hk : k < l.length) (hx : f x ≠ 0) : firstNZ ((l.set k x).map f) = f x := by
  rw [List.set_eq_take_append_cons_drop, if_pos hk, List.map_append, List.map_cons]
  refine firstNZ_at (fun y hy => ?_) hx
  obtain ⟨w, hw, rfl⟩ := List.mem_map.1 hy
  exact h w (List.mem_of_mem_take hw)
theorem sglE_parts {p : Fn} (h : sglE p = 0) : limE p = 0 ∧ formE p = 0 ∧ ∀ y ∈ p.code, instE p y = 0 := by
  unfold sglE at h
  split at h
  · omega
  rename_i h1
  split at h
  · omega
  rename_i h2
  split at h
  · omega
  rename_i h3
  have h3 : firstNZ (p.code.map (instE p)) = 0 := by simpa using h3
  rw [firstNZ_iff] at h3
  exact ⟨by simpa using h1, by simpa using h2, fun y hy => h3 _ (List.mem_map.2 ⟨y, hy, rfl⟩)⟩
theorem chkE_spoil {p : Fn} {k : Nat} {x : Ins} (h : chkE p = 0) (hk : k < p.code.length) (hx : x ∈ badIs p) : chkE (p.spoil k x) = 4 ∨ chkE (p.spoil k x) = 6 := by
  rw [chkE_iff] at h
  obtain ⟨s1, s2, s3⟩ := sglE_parts (h.2 p p.self_mem)
  have hb := instE_bad hx
  have hs : sglE (p.spoil k x) = instE p x := by
    have e : firstNZ ((p.spoil k x).code.map (instE (p.spoil k x))) = instE p x := by
      rw [show instE (p.spoil k x) = instE p from funext (instE_spoil p k x)]
      exact firstNZ_set s3 hk (by omega)
    unfold sglE
    rw [limE_spoil, formE_spoil, if_neg (by simpa using s1), if_neg (by simpa using s2), e, if_pos (by omega)]
  have : chkE (p.spoil k x) = instE p x := by
    unfold chkE chkAll
    rw [Fn.depth_spoil, if_neg (by omega), Fn.each_eq, List.map_cons, firstNZ, hs, if_neg (by omega)]
  rw [this]
  exact hb
theorem form_code {p : Fn} (h : chkE p = 0) : 0 < p.code.length := by
  rw [chkE_iff] at h
  have s2 := (sglE_parts (h.2 p p.self_mem)).2.1
  unfold formE at s2
  split at s2
  · rename_i hc; have := hc.1; omega
  · omega
end Go.Proofs.YtmhbbaheponmoaaDoor
