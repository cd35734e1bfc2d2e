/-
  Live registers: their equation. No condition.
-/
import Derived.Test.YtdnpnbenahpllaaDoorLiveS
set_option linter.unusedVariables false
set_option linter.unusedSimpArgs false
set_option maxRecDepth 100000
namespace Go.Proofs.YtdnpnbenahpllaaDoor
open Go.Abs

theorem liveR_iff {U : Nat → Nat → Bool} {Nx : Nat → List Int} {D : Nat → Int → Nat → Bool} {a r : Nat} : LiveR U Nx D a r ↔ U a r = true ∨ ∃ t : Nat, (t : Int) ∈ Nx a ∧ D a t r = false ∧ LiveR U Nx D t r := by
  constructor
  · intro h
    cases h with
    | use h => exact .inl h
    | flow h1 h2 h3 => exact .inr ⟨_, h1, h2, h3⟩
  · rintro (h | ⟨t, h1, h2, h3⟩)
    · exact .use h
    · exact .flow h1 h2 h3

theorem any_mem (l : List Int) (z : Int) : (l.any fun x => decide (x = z)) = decide (z ∈ l) := by
  rw [Bool.eq_iff_iff, List.any_eq_true, decide_eq_true_iff]
  constructor
  · rintro ⟨x, hx, h⟩; rw [← of_decide_eq_true h]; exact hx
  · intro h; exact ⟨z, h, by simp⟩
theorem upsF_at {N r : Nat} (hr : r < N) : ∀ (us : List (List UInt8 × Bool × Int)) (f : Nat → Bool), upsF N us f r = (f r || us.any fun u => u.2.1 && decide (u.2.2 = (r : Int)))
  | [], f => by simp [upsF]
  | u :: us, f => by
    have ih := upsF_at hr us
    unfold upsF at ih ⊢
    rw [List.foldl_cons, ih, List.any_cons]
    cases h : u.2.1 with
    | false => simp
    | true =>
      simp only [if_true, putB, List.mem_singleton]
      have : decide (0 ≤ (-1 : Int) ∧ (-1 : Int) ≤ (r : Int)) = false := by simp
      rw [this]
      have e : decide ((r : Int) = u.2.2) = decide (u.2.2 = (r : Int)) := decide_eq_decide.2 eq_comm
      simp [hr, e, Bool.or_assoc]
theorem useP_at {p : Pro} {a r : Nat} {i : Ins} (hi : p.code[a]? = some i) (hr : r < regN p.regs) : useP p a r = (((reads i).1.any fun y => decide (y = (r : Int))) || (decide (0 ≤ (reads i).2 ∧ (reads i).2 ≤ (r : Int)) || captB p i r)) := by
  unfold useP
  rw [hi, any_mem]
  show usesB p i r = _
  have hput : putB (regN p.regs) (reads i).1 (reads i).2 (fun _ => false) r = (decide ((r : Int) ∈ (reads i).1) || decide (0 ≤ (reads i).2 ∧ (reads i).2 ≤ (r : Int))) := by simp [putB, hr]
  unfold usesB
  by_cases c : i.op = 22 ∧ 0 ≤ i.b ∧ i.b < p.protos.length
  · rw [if_pos c, upsF_at hr, hput]
    unfold captB
    rw [decide_eq_true c]
    cases h : p.protos[i.b.toNat]? with
    | none => simp [Bool.or_assoc]
    | some q => simp [capB, Bool.or_assoc]
  · rw [if_neg c, hput]
    unfold captB
    rw [decide_eq_false c]; simp
theorem defP_at {p : Pro} {a r : Nat} {x : Int} (hr : r < regN p.regs) : defP p a x r = wrtB p a x r := by
  unfold defP defsB wrtB
  cases h : p.code[a]? with
  | none => rfl
  | some i =>
    simp only
    split
    · rfl
    · rw [any_mem]; simp [putB, hr]
theorem lvL_any {p : Pro} {a r : Nat} (hr : r < regN p.regs) : ((lvL p a).any fun x => decide (x = (r : Int))) = liveP p a r := by
  rw [any_mem]
  have : ((r : Int) ∈ lvL p a) ↔ liveP p a r = true := by
    unfold lvL
    simp only [List.mem_map, List.mem_filter, List.mem_range]
    constructor
    · rintro ⟨y, ⟨_, h⟩, e⟩
      obtain rfl : y = r := by omega
      exact h
    · intro h; exact ⟨r, ⟨hr, h⟩, rfl⟩
  rw [Bool.eq_iff_iff, decide_eq_true_iff]; exact this
theorem lvL_in {p : Pro} {a : Nat} : ∀ x ∈ lvL p a, 0 ≤ x ∧ x < (regN p.regs : Int) := by
  intro x hx
  unfold lvL at hx
  simp only [List.mem_map, List.mem_filter, List.mem_range] at hx
  obtain ⟨y, ⟨h, _⟩, rfl⟩ := hx
  omega
theorem lvL_len {p : Pro} {a : Nat} : (lvL p a).length ≤ 4096 := by
  unfold lvL
  have h1 := List.length_filter_le (liveP p a) (List.range (regN p.regs))
  have h2 := regN_le p.regs
  rw [List.length_map]
  rw [List.length_range] at h1
  omega
theorem live_eq {p : Pro} {a r : Nat} (hr : r < regN p.regs) : liveP p a r = (useP p a r || (nextL p.code a).any fun x => liveP p x.toNat r && !wrtB p a x r) := by
  rw [Bool.eq_iff_iff, Bool.or_eq_true]
  unfold liveP
  rw [liveB_iff, liveR_iff, List.any_eq_true]
  refine or_congr Iff.rfl ⟨?_, ?_⟩
  · rintro ⟨t, h1, h2, h3⟩
    refine ⟨t, h1, ?_⟩
    rw [defP_at hr] at h2
    simp only [Int.toNat_natCast, h2, Bool.not_false, Bool.and_true]
    exact liveB_iff.2 h3
  · rintro ⟨x, h1, h2⟩
    have hx := nextL_in h1
    simp only [Bool.and_eq_true, Bool.not_eq_true'] at h2
    have e : ((x.toNat : Nat) : Int) = x := by omega
    refine ⟨x.toNat, by rw [e]; exact h1, by rw [e, defP_at hr]; exact h2.2, liveB_iff.1 h2.1⟩
end Go.Proofs.YtdnpnbenahpllaaDoor
