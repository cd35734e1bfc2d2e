/-
  Functions at the limits. No condition.
-/
import Derived.Test.YtcleahokjbeapaaDoorFnM9
set_option linter.unusedVariables false
set_option linter.unusedSimpArgs false
set_option maxRecDepth 100000
set_option maxHeartbeats 0
namespace Go.Proofs.YtcleahokjbeapaaDoor
open Go.Abs

theorem firstNZ_iff : ∀ {l : List Int}, firstNZ l = 0 ↔ ∀ x ∈ l, x = 0
  | [] => by simp [firstNZ]
  | x :: r => by
    rw [firstNZ]
    split
    · rename_i h; rw [firstNZ_iff, List.forall_mem_cons]; simp [h]
    · rename_i h; rw [List.forall_mem_cons]; simp [h]
theorem chkE_iff (p : Fn) : chkE p = 0 ↔ p.depth ≤ 64 ∧ ∀ q ∈ p.each, sglE q = 0 := by
  unfold chkE chkAll
  split
  · rename_i h; constructor
    · intro h; omega
    · intro h; omega
  · rename_i h
    rw [firstNZ_iff]
    simp only [List.mem_map, forall_exists_index, and_imp, forall_apply_eq_imp_iff₂]
    exact ⟨fun h2 => ⟨by omega, h2⟩, fun h2 => h2.2⟩

def retI : Ins := ⟨18, 0, 0, 0, 0⟩
def kZ : Kst := ⟨0, 0, 0, [], 0⟩
def uZ : Upv := ⟨[], false, 0⟩
def plainF (name : List UInt8) (regs : Int) (consts : List Kst) (protos : List Fn) (ups : List Upv) : Fn := ⟨name, 0, 0, false, regs, [retI], [], consts, protos, ups, []⟩

theorem chk_ret : chk retI = 0 := by decide
theorem instE_plain {name : List UInt8} {regs : Int} {consts : List Kst} {protos : List Fn} {ups : List Upv} (h0 : 0 ≤ regs) : instE (plainF name regs consts protos ups) retI = 0 := by
  unfold instE
  rw [if_neg (by rw [chk_ret]; simp)]
  refine if_pos ⟨?_, ?_, ?_, ?_⟩
  · have : reads retI = ([], -1) := by decide
    rw [this]
    have h : (-1 : Int) ≤ regs := by omega
    simp [withinB, plainF, h]
  · have : writes retI = ([], -1) := by decide
    rw [this]
    have h : (-1 : Int) ≤ regs := by omega
    simp [withinB, plainF, h]
  · intro h
    have h' : isJump retI.op = false := by decide
    rw [h'] at h; cases h
  · have h : ¬ (consts.length : Int) ≤ -1 := by omega
    simp [refersB, constI, retI, plainF, h]
theorem form_plain {name : List UInt8} {regs : Int} {c : Nat} {protos : List Fn} {u : Nat} (h0 : 0 ≤ regs) : formE (plainF name regs (List.replicate c kZ) protos (List.replicate u uZ)) = 0 := by
  have h1 : (List.replicate c kZ).any badK = false := by
    rw [List.any_eq_false]
    intro x hx
    rw [List.eq_of_mem_replicate hx]
    decide
  have h2 : (List.replicate u uZ).any (fun u => decide (u.idx < 0)) = false := by
    rw [List.any_eq_false]
    intro x hx
    rw [List.eq_of_mem_replicate hx]
    decide
  refine if_pos ?_
  exact ⟨(by decide : (1 : Nat) ≠ 0), h0, (by decide : (0 : Int) ≤ 0), (by decide : (0 : Int) ≤ 0), h0, .inl rfl, rfl, h2, h1, rfl⟩
theorem up_short (u : Nat) : (List.replicate u uZ).any (fun u => decide (40 < u.name.length)) = false := by
  rw [List.any_eq_false]
  intro x hx
  rw [List.eq_of_mem_replicate hx]
  decide
theorem sgl_plain {name : List UInt8} {regs : Int} {c : Nat} {protos : List Fn} {u : Nat} (hn : name.length ≤ 4096) (h0 : 0 ≤ regs) (hr : regs ≤ 4096) (hc : c ≤ 4096) (hp : protos.length ≤ 1024) (hu : u ≤ 60)
    (hq : ∀ q ∈ protos, q.ups = []) : sglE (plainF name regs (List.replicate c kZ) protos (List.replicate u uZ)) = 0 := by
  have hl : limE (plainF name regs (List.replicate c kZ) protos (List.replicate u uZ)) = 0 := by
    refine if_pos ?_
    exact ⟨(by decide : 1 ≤ 16384), (by show (List.replicate c kZ).length ≤ 4096; rw [List.length_replicate]; exact hc), hp, (by show (List.replicate u uZ).length ≤ 60; rw [List.length_replicate]; exact hu), (by decide : 0 ≤ 16384), hr, hn, up_short u, rfl⟩
  have hi : firstNZ ((plainF name regs (List.replicate c kZ) protos (List.replicate u uZ)).code.map (instE (plainF name regs (List.replicate c kZ) protos (List.replicate u uZ)))) = 0 := by
    refine firstNZ_zero fun x hx => ?_
    obtain ⟨y, hy, rfl⟩ := List.mem_map.1 hx
    rw [List.mem_singleton.1 hy]
    exact instE_plain h0
  have hb : protos.any (badQ (plainF name regs (List.replicate c kZ) protos (List.replicate u uZ))) = false := by
    rw [List.any_eq_false]
    intro q hm
    simp [badQ, hq q hm]
  unfold sglE
  rw [hl, form_plain h0, hi]
  simp only [ne_eq, not_true_eq_false, if_false]
  exact if_neg (by show ¬ protos.any _ = true; rw [hb]; decide)
theorem sgl_over {name : List UInt8} {regs : Int} {c : Nat} {protos : List Fn} {u : Nat} (h : ¬ (c ≤ 4096 ∧ u ≤ 60 ∧ regs ≤ 4096 ∧ name.length ≤ 4096)) : sglE (plainF name regs (List.replicate c kZ) protos (List.replicate u uZ)) = 3 := by
  have hl : limE (plainF name regs (List.replicate c kZ) protos (List.replicate u uZ)) = 3 := by
    refine if_neg ?_
    simp only [plainF, List.length_replicate]
    rintro ⟨-, h1, -, h2, -, h3, h4, -⟩
    exact h ⟨h1, h2, h3, h4⟩
  unfold sglE
  rw [hl]
  rfl
theorem chk_one (p : Fn) (h : p.protos = []) : chkE p = sglE p := by
  unfold chkE chkAll
  rw [Fn.depth_eq, Fn.each_eq, h]
  rw [if_neg (by decide)]
  show firstNZ [sglE p] = _
  rw [firstNZ]
  split
  · rename_i h; rw [h]; rfl
  · rfl
/-- One that holds none is accepted just within the limits. -/
theorem chk_plain {name : List UInt8} {regs : Int} {c u : Nat} (hn : name.length ≤ 4096) (h0 : 0 ≤ regs) (hr : regs ≤ 4096) (hc : c ≤ 4096) (hu : u ≤ 60) : chkE (plainF name regs (List.replicate c kZ) [] (List.replicate u uZ)) = 0 := by
  rw [chk_one _ rfl]
  exact sgl_plain hn h0 hr hc (by decide) hu fun q h => by cases h
theorem chk_over {name : List UInt8} {regs : Int} {c u : Nat} (h : ¬ (c ≤ 4096 ∧ u ≤ 60 ∧ regs ≤ 4096 ∧ name.length ≤ 4096)) : chkE (plainF name regs (List.replicate c kZ) [] (List.replicate u uZ)) = 3 := by
  rw [chk_one _ rfl]
  exact sgl_over h
theorem plain_le {name : List UInt8} {regs : Int} {c u : Nat} {protos : List Fn} (hc : c ≤ 5000) (hu : u ≤ 5000) (hp : protos.length ≤ 5000) : (plainF name regs (List.replicate c kZ) protos (List.replicate u uZ)).Le := by
  refine ⟨(by decide : 1 ≤ 1000000), (by decide : 0 ≤ 1000000), ?_, (Nat.le_trans hp (by decide) : protos.length ≤ 1000000), ?_, (by decide : 0 ≤ 1000000)⟩
  · show (List.replicate c kZ).length ≤ 1000000
    rw [List.length_replicate]; omega
  · show (List.replicate u uZ).length ≤ 1000000
    rw [List.length_replicate]; omega
theorem plain_bd {name : List UInt8} {regs : Int} {c u : Nat} (hc : c ≤ 5000) (hu : u ≤ 5000) : (plainF name regs (List.replicate c kZ) [] (List.replicate u uZ)).bd := by
  intro q hq
  rw [Fn.each_eq] at hq
  rcases List.mem_cons.1 hq with rfl | hq
  · exact plain_le hc hu (Nat.zero_le _)
  · cases hq
theorem plain_depth {name : List UInt8} {regs : Int} {c u : Nat} : (plainF name regs (List.replicate c kZ) [] (List.replicate u uZ)).depth = 1 := by rw [Fn.depth_eq]; rfl

/-- Functions one within the other. -/
def deepF : Nat → Fn
  | 0 => plainF [] 0 (List.replicate 0 kZ) [] (List.replicate 0 uZ)
  | k + 1 => plainF [] 0 (List.replicate 0 kZ) [deepF k] (List.replicate 0 uZ)
theorem deep_ups : ∀ k, (deepF k).ups = []
  | 0 => rfl
  | _ + 1 => rfl
theorem deep_each (k : Nat) : ∀ q ∈ (deepF k).each, sglE q = 0 ∧ q.Le := by
  induction k with
  | zero =>
    intro q hq
    rw [Fn.each_eq] at hq
    rcases List.mem_cons.1 hq with rfl | hq
    · exact ⟨sgl_plain (by decide) (by decide) (by decide) (by decide) (by decide) (by decide) (fun q h => by cases h), plain_le (by decide) (by decide) (by decide)⟩
    · cases hq
  | succ k ih =>
    intro q hq
    rw [Fn.each_eq] at hq
    rcases List.mem_cons.1 hq with rfl | hq
    · exact ⟨sgl_plain (by decide) (by decide) (by decide) (by decide) (by simp) (by decide) (fun q h => by rw [List.mem_singleton.1 h]; exact deep_ups k), plain_le (by decide) (by decide) (by simp)⟩
    · exact ih q (by have : (deepF (k + 1)).protos = [deepF k] := rfl; rw [this, Fn.eachs_one] at hq; exact hq)
theorem deep_depth (k : Nat) : (deepF k).depth = k + 1 := by
  induction k with
  | zero => rw [Fn.depth_eq]; rfl
  | succ k ih =>
    rw [Fn.depth_eq]
    show Fn.depths [deepF k] + 1 = _
    rw [Fn.depths, ih, Fn.depths]
    rfl
theorem deep_bd (k : Nat) : (deepF k).bd := fun q hq => (deep_each k q hq).2
theorem deep_in {k : Nat} (h : k < 64) : chkE (deepF k) = 0 := by
  rw [chkE_iff]
  exact ⟨by rw [deep_depth]; omega, fun q hq => (deep_each k q hq).1⟩
theorem deep_over {k : Nat} (h : 64 ≤ k) : chkE (deepF k) = 3 := by
  unfold chkE chkAll
  rw [deep_depth, if_pos (by omega)]
end Go.Proofs.YtcleahokjbeapaaDoor
