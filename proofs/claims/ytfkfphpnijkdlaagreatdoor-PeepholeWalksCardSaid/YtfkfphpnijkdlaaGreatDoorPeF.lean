/-
 What an accepted function is. No condition.
-/
import Derived.Test.YtfkfphpnijkdlaaGreatDoorFnB
import Derived.Test.YtfkfphpnijkdlaaGreatDoorPeE
import Derived.Test.YtfkfphpnijkdlaaGreatDoorPeDL
set_option linter.unusedVariables false
set_option linter.unusedSimpArgs false
set_option maxRecDepth 100000
set_option maxHeartbeats 0
namespace Go.Proofs.YtfkfphpnijkdlaaGreatDoor
open Go.Abs
theorem sgl_parts {p : Fn} (h : sglE p = 0) : limE p = 0 ∧ formE p = 0 ∧ (∀ i ∈ p.code, instE p i = 0) ∧ p.protos.any (badQ p) = false := by
 unfold sglE at h
 split at h
 ·omega
 split at h
 ·omega
 split at h
 ·omega
 split at h
 ·omega
 rename_i h1 h2 h3 h4
 simp only [ne_eq, Classical.not_not] at h1 h2 h3
 exact ⟨h1, h2, fun i hi => firstNZ_iff.1 h3 _ (List.mem_map_of_mem hi), by simpa using h4⟩
theorem lim_parts {p : Fn} (h : limE p = 0) : p.code.length ≤ 16384 ∧ p.consts.length ≤ 4096 ∧ p.protos.length ≤ 1024 ∧ p.ups.length ≤ 60 ∧ p.vars.length ≤ 16384 ∧ p.regs ≤ 4096 := by
 unfold limE at h
 split at h
 ·rename_i hc; exact ⟨hc.1, hc.2.1, hc.2.2.1, hc.2.2.2.1, hc.2.2.2.2.1, hc.2.2.2.2.2.1⟩
 ·omega
theorem form_parts {p : Fn} (h : formE p = 0) : p.code.length ≠ 0 ∧ 0 ≤ p.regs ∧ (p.lines.length = 0 ∨ p.lines.length = p.code.length) ∧ (∀ u ∈ p.ups, 0 ≤ u.idx) ∧ ∀ v ∈ p.vars, 0 ≤ v.lo ∧ v.lo ≤ v.hi ∧ v.hi ≤ p.code.length := by
 unfold formE at h
 split at h
 ·rename_i hc
  obtain ⟨a1, a2, a3, a4, a5, a6, a7, a8, a9, a10⟩ := hc
  refine ⟨a1, a2, a6, fun u hu => ?_, fun v hv => ?_⟩
  ·rw [List.any_eq_false] at a8
   have := a8 u hu
   simp at this; omega
  ·rw [List.any_eq_false] at a10
   have := a10 v hv
   simp [badV] at this
   omega
 ·omega
theorem inst_parts {p : Fn} {i : Ins} (h : instE p i = 0) : chk i = 0 ∧ (isJump i.op = true → 0 ≤ i.b ∧ i.b < p.code.length) := by
 unfold instE at h
 split at h
 ·rename_i h1; exact absurd h h1
 ·rename_i h1
  split at h
  ·rename_i h2; exact ⟨by simpa using h1, h2.2.2.1⟩
  ·omega
theorem rem_ok {p : Fn} (h : sglE p = 0) : RemOK p := by
 obtain ⟨h1, h2, h3, h4⟩ := sgl_parts h
 obtain ⟨a1, a2, a3, a4, a5, a6⟩ := lim_parts h1
 obtain ⟨b1, b2, b3, b4, b5⟩ := form_parts h2
 refine ⟨by omega, b3.symm, fun i hi hj => ?_, fun v hv => ?_, by omega⟩
 ·have := (inst_parts (h3 i hi)).2 hj
  omega
 ·have := b5 v hv
  omega
theorem shell_sgl {q : Fn} (h : sglE q = 0) : sglE (shellF q) = 0 := by
 obtain ⟨h1, h2, h3, h4⟩ := sgl_parts h
 obtain ⟨a1, a2, a3, a4, a5, a6⟩ := lim_parts h1
 have e : shellF q = plainF [] 0 [] [] (q.ups.map shellU) := rfl
 have hl : limE (shellF q) = 0 := by
  refine if_pos ⟨(by decide : (1 : Nat) ≤ 16384), Nat.zero_le _, Nat.zero_le _, ?_, Nat.zero_le _, (by decide : (0 : Int) ≤ 4096), Nat.zero_le _, ?_, rfl⟩
  ·show (q.ups.map shellU).length ≤ 60; rw [List.length_map]; exact a4
  ·show (q.ups.map shellU).any _ = false
   rw [List.any_eq_false]
   intro x hx
   obtain ⟨y, _, rfl⟩ := List.mem_map.1 hx
   simp [shellU]
 have hf : formE (shellF q) = 0 := by
  refine if_pos ⟨(by decide : (1 : Nat) ≠ 0), Int.le_refl 0, Int.le_refl 0, Int.le_refl 0, Int.le_refl 0, .inl rfl, rfl, ?_, rfl, rfl⟩
  show (q.ups.map shellU).any _ = false
  rw [List.any_eq_false]
  intro x hx
  obtain ⟨y, _, rfl⟩ := List.mem_map.1 hx
  have := Int.le_max_right y.idx 0
  show ¬ decide (max y.idx 0 < 0) = true
  rw [decide_eq_true_eq]
  omega
 unfold sglE
 rw [if_neg (by rw [hl]; decide), if_neg (by rw [hf]; decide)]
 have hi : firstNZ ((shellF q).code.map (instE (shellF q))) = 0 := by
  refine firstNZ_zero fun x hx => ?_
  obtain ⟨y, hy, rfl⟩ := List.mem_map.1 hx
  rw [List.mem_singleton.1 (show y ∈ [retI] from hy), e]
  exact instE_plain (Int.le_refl 0)
 rw [if_neg (by rw [hi]; decide)]
 rfl
theorem alone_sgl {p : Fn} (h : sglE p = 0) (hq : ∀ q ∈ p.protos, sglE q = 0) : sglE (aloneF p) = 0 := by
 obtain ⟨h1, h2, h3, h4⟩ := sgl_parts h
 have hl : limE (aloneF p) = limE p := by unfold limE aloneF; simp only [List.length_map]
 have hf : formE (aloneF p) = formE p := rfl
 have hin : ∀ i, instE (aloneF p) i = instE p i := fun i => by
  have hr : refersB (aloneF p) i = refersB p i := by unfold refersB aloneF; simp only [List.length_map]
  unfold instE
  rw [hr]
  rfl
 unfold sglE
 rw [hl, hf, if_neg (by rw [h1]; decide), if_neg (by rw [h2]; decide)]
 have hi : firstNZ ((aloneF p).code.map (instE (aloneF p))) = 0 := by
  refine firstNZ_zero fun x hx => ?_
  obtain ⟨y, hy, rfl⟩ := List.mem_map.1 hx
  rw [hin]
  exact h3 y hy
 rw [if_neg (by rw [hi]; decide)]
 refine if_neg ?_
 rw [Bool.not_eq_true, List.any_eq_false]
 intro x hx
 obtain ⟨q, hqm, rfl⟩ := List.mem_map.1 (show x ∈ p.protos.map shellF from hx)
 rw [List.any_eq_false] at h4
 have h5 := h4 q hqm
 rw [Bool.not_eq_true] at h5 ⊢
 unfold badQ at h5 ⊢
 rw [List.any_eq_false] at h5 ⊢
 intro u hu
 obtain ⟨y, hy, rfl⟩ := List.mem_map.1 (show u ∈ q.ups.map shellU from hu)
 have h6 := h5 y hy
 have h7 := (form_parts (sgl_parts (hq q hqm)).2.1).2.2.2.1 y hy
 have h8 : shellU y = { y with name := [] } := by unfold shellU; rw [Int.max_eq_left h7]
 rw [h8]
 exact h6
theorem shells_each : ∀ (l : List Fn), ∀ x ∈ Fn.eachs (l.map shellF), ∃ q ∈ l, x = shellF q
 | [], x, h => by cases h
 | q :: r, x, h => by
  rw [List.map_cons, Fn.eachs, Fn.each_eq] at h
  rcases List.mem_append.1 h with h | h
  ·rcases List.mem_cons.1 h with h | h
   ·exact ⟨q, List.mem_cons_self, h⟩
   ·cases h
  ·obtain ⟨y, hy, e⟩ := shells_each r x h
   exact ⟨y, List.mem_cons_of_mem _ hy, e⟩
theorem shells_depth : ∀ (l : List Fn), Fn.depths (l.map shellF) ≤ 1
 | [] => by simp [Fn.depths]
 | q :: r => by
  rw [List.map_cons, Fn.depths, Fn.depth_eq]
  have := shells_depth r
  have h2 : Fn.depths (shellF q).protos = 0 := by show Fn.depths [] = 0; rw [Fn.depths]
  omega
theorem alone_depth (p : Fn) : (aloneF p).depth ≤ 2 := by
 rw [Fn.depth_eq]
 have := shells_depth p.protos
 show Fn.depths (p.protos.map shellF) + 1 ≤ 2
 omega
theorem alone_each {p x : Fn} (h : x ∈ (aloneF p).each) : x = aloneF p ∨ ∃ q ∈ p.protos, x = shellF q := by
 rw [Fn.each_eq] at h
 rcases List.mem_cons.1 h with h | h
 ·exact .inl h
 ·exact .inr (shells_each p.protos x h)
theorem alone_bd {p : Fn} (hp : p.bd) : (aloneF p).bd := by
 intro x hx
 rcases alone_each hx with rfl | ⟨q, hq, rfl⟩
 ·obtain ⟨c1, c2, c3, c4, c5, c6⟩ := hp.self
  exact ⟨c1, c2, c3, by show (p.protos.map shellF).length ≤ _; rw [List.length_map]; exact c4, c5, c6⟩
 ·have := (hp.child hq).self.ups
  exact ⟨by show 1 ≤ _; omega, Nat.zero_le _, Nat.zero_le _, Nat.zero_le _, by show (q.ups.map shellU).length ≤ _; rw [List.length_map]; exact this, Nat.zero_le _⟩
theorem alone_chk {p : Fn} (h : sglE p = 0) (hq : ∀ q ∈ p.protos, sglE q = 0) : chkE (aloneF p) = 0 := by
 rw [chkE_iff]
 refine ⟨by have := alone_depth p; omega, fun x hx => ?_⟩
 rcases alone_each hx with rfl | ⟨q, hm, rfl⟩
 ·exact alone_sgl h hq
 ·exact shell_sgl (hq q hm)
structure GoodF (p : Fn) : Prop where
 bd : p.bd
 sgl : ∀ q ∈ p.each, sglE q = 0
 few : ∀ q ∈ p.each, q.code.length ≤ 200
theorem GoodF.self {p : Fn} (h : GoodF p) : sglE p = 0 := h.sgl p p.self_mem
theorem GoodF.child {p q : Fn} (h : GoodF p) (hq : q ∈ p.protos) : GoodF q :=
 ⟨h.bd.child hq, fun x hx => h.sgl x (Fn.each_trans p q (Fn.child_mem p.self_mem hq) x hx), fun x hx => h.few x (Fn.each_trans p q (Fn.child_mem p.self_mem hq) x hx)⟩
theorem GoodF.hb (p : Fn) (h : GoodF p) : p.protos.length ≤ 100000 ∧ (∀ q ∈ p.protos, q.ups.length ≤ 60) ∧ (aloneF p).bd ∧ (aloneF p).depth ≤ 1000000 := by
 obtain ⟨a1, a2, a3, a4, a5, a6⟩ := lim_parts (sgl_parts h.self).1
 refine ⟨by omega, fun q hq => ?_, alone_bd h.bd, by have := alone_depth p; omega⟩
 exact (lim_parts (sgl_parts (h.child hq).self).1).2.2.2.1
theorem GoodF.dead {p : Fn} (h : GoodF p) : Pure Tryz.prog 20 [.agg p.row] (.agg (deadF p).row) :=
 dead_pure p (rem_ok h.self) (by have := h.few p p.self_mem; omega)
theorem GoodF.pos {p : Fn} (h : GoodF p) : 0 < p.code.length := by
 have := (form_parts (sgl_parts h.self).2.1).1
 omega
end Go.Proofs.YtfkfphpnijkdlaaGreatDoor
