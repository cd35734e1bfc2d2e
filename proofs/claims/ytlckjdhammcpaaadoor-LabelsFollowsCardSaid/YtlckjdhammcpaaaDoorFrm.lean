/-
  Calls that need a part of the heap; heaps with an opaque rest. No condition.
-/
import Derived.Test.YtlckjdhammcpaaaDoorWk
set_option linter.unusedVariables false
set_option linter.unusedSimpArgs false
namespace Go.Abs

theorem CallS.sub {P : Program} {f : FuncId} {xs : List V} {h : Heap} {n : Nat} {k k1 : Res} (hc : CallS P f xs h n k1)
    (hk : ∀ r h' n', k1 r h' n' → ∃ h2, (∀ e ∈ h2, e ∈ h') ∧ k r h2 n') : CallS P f xs h n k := by
  intro w O ρ cargs hr hR
  refine (hc w O ρ cargs hr hR).mono ?_
  rintro e w' ⟨v, r, h', n', ρ', rfl, hk1, hr', hRv, hx⟩
  obtain ⟨h2, hs, hk2⟩ := hk r h' n' hk1
  obtain ⟨hr2, hx2⟩ := hr'.drop hs
  exact ⟨v, r, h2, n', ρ', rfl, hk2, hr2, hRv.mono hx2, hx.trans hx2⟩

theorem CallS.mono {P : Program} {f : FuncId} {xs : List V} {h : Heap} {n : Nat} {k k1 : Res} (hc : CallS P f xs h n k1)
    (hk : ∀ r h' n', k1 r h' n' → k r h' n') : CallS P f xs h n k := hc.sub fun r h' n' h1 => ⟨h', fun _ h => h, hk r h' n' h1⟩

/-- No entry of the heap has one of these names. -/
def Apart (h : Heap) (b : Nat) : Prop := ∀ e ∈ h, e.1 ≠ b

/-- A call that needs the end of the heap. -/
theorem CallS.use {P : Program} {f : FuncId} {xs : List V} {h h1 rest : Heap} {n : Nat} {k k1 : Res} (hc : CallS P f xs h1 n k1) (hh : h = rest ++ h1) (hs2 : ∀ e ∈ rest, ∀ e' ∈ h1, e'.1 ≠ e.1)
    (hk : ∀ r h' n', n ≤ n' → k1 r h' n' → k r (rest ++ h') n') : CallS P f xs h n k := by
  subst hh
  refine (CallS.frame (rest := rest) (k := fun r h' n' => ∃ h2, (∀ e ∈ h2, e ∈ h') ∧ k r h2 n') hc (fun e he => List.mem_append.2 (.inr he)) (fun e he => ⟨List.mem_append.2 (.inl he), hs2 e he⟩) ?_).sub fun r h' n' h => h
  intro r h' n' hn h1
  refine ⟨rest ++ h', fun e he => ?_, hk r h' n' hn h1⟩
  rcases List.mem_append.1 he with h | h
  · exact List.mem_append.2 (.inr h)
  · exact List.mem_append.2 (.inl h)

theorem Apart.del {h : Heap} {b : Nat} (ha : Apart h b) : Heap.del h b = h := by
  unfold Heap.del
  rw [List.filter_eq_self]
  intro e he
  have := ha e he
  cases hb : Nat.beq e.1 b with
  | false => rfl
  | true => exact (this (Nat.eq_of_beq_eq_true hb)).elim
theorem Apart.nil {b : Nat} : Apart [] b := fun _ h => by cases h
theorem Apart.cons {h : Heap} {e : Nat × Nat × Blk} {b : Nat} (h1 : e.1 ≠ b) (h2 : Apart h b) : Apart (e :: h) b := fun x hx => by
  rcases List.mem_cons.1 hx with rfl | hx
  · exact h1
  · exact h2 x hx
theorem Apart.append {h h' : Heap} {b : Nat} (h1 : Apart h b) (h2 : Apart h' b) : Apart (h ++ h') b := fun x hx => by
  rcases List.mem_append.1 hx with hx | hx
  · exact h1 x hx
  · exact h2 x hx

def apartB (h1 rest : Heap) : Bool := rest.all fun e => h1.all fun e' => !(Nat.beq e'.1 e.1)

/-- Blocks by their places. -/
def pickH (h : Heap) : List Nat → Heap
  | [] => []
  | i :: r => match h[i]? with
    | some e => e :: pickH h r
    | none => pickH h r
attribute [go_sem] pickH

theorem pickH_mem {h : Heap} : ∀ {l : List Nat} {e : Nat × Nat × Blk}, e ∈ pickH h l → e ∈ h
  | [], _, he => by cases he
  | i :: r, e, he => by
    simp only [pickH] at he
    split at he
    · rename_i x hx
      rcases List.mem_cons.1 he with rfl | he
      · exact List.mem_of_getElem? hx
      · exact pickH_mem he
    · exact pickH_mem he

/-- A call that needs some of the blocks: those at places 'l1'; those at 'l2' are kept. -/
theorem CallS.at (l1 l2 : List Nat) {P : Program} {f : FuncId} {xs : List V} {h h1 : Heap} {n : Nat} {k k1 : Res} (hc : CallS P f xs h1 n k1) (he : pickH h l1 = h1) (hs3 : apartB (pickH h l1) (pickH h l2) = true)
    (hk : ∀ r h' n', n ≤ n' → k1 r h' n' → k r (h' ++ pickH h l2) n') : CallS P f xs h n k := by
  subst he
  refine CallS.frame hc (fun e he => pickH_mem he) (fun e he => ⟨pickH_mem he, fun e' he' => ?_⟩) hk
  unfold apartB at hs3
  have h1 := List.all_eq_true.1 (List.all_eq_true.1 hs3 e he) e' he'
  intro h2
  rw [h2, Nat.beq_refl] at h1
  cases h1
/-- A call that needs no block. -/
theorem CallS.out {P : Program} {f : FuncId} {xs : List V} {h : Heap} {n : Nat} {k k1 : Res} (hc : CallS P f xs [] n k1) (hk : ∀ r h' n', n ≤ n' → k1 r h' n' → k r (h' ++ h) n') : CallS P f xs h n k :=
  CallS.frame hc (by simp) (fun e he => ⟨he, by simp⟩) hk
end Go.Abs
