/-
  The number of functions within a function, and of their instructions. No condition.
-/
import Derived.Test.YtmpkdkadnhindaaDoorFnE
set_option linter.unusedVariables false
set_option linter.unusedSimpArgs false
set_option maxRecDepth 100000
set_option maxHeartbeats 0
namespace Go.Proofs.YtmpkdkadnhindaaDoor
open Go.Abs
attribute [local irreducible] CallS Run RndS

def sizeL (l : List Fn) : Nat := (l.map fun q => q.code.length).sum
theorem sizeL_snoc (l : List Fn) (q : Fn) : sizeL (l ++ [q]) = sizeL l + q.code.length := by simp [sizeL]
theorem sizeL_le : ∀ {l : List Fn}, (∀ q ∈ l, q.Le) → sizeL l ≤ l.length * 3518437208780
  | [], _ => by simp [sizeL]
  | q :: r, h => by
    have h1 := (h q List.mem_cons_self).code
    have h2 := sizeL_le fun x hx => h x (List.mem_cons_of_mem _ hx)
    simp only [sizeL, List.map_cons, List.sum_cons, List.length_cons] at h2 ⊢
    omega

end Go.Proofs.YtmpkdkadnhindaaDoor
