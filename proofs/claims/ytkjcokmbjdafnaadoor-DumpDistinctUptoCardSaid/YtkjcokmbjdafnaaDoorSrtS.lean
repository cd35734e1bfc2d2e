/-
  slices.Sort and slices.Compact of integers, by the shelf's contracts. No condition.
-/
import Derived.Test.YtkjcokmbjdafnaaDoorSrt
import Derived.Test.YtkjcokmbjdafnaaDoorShelf
set_option linter.unusedVariables false
set_option linter.unusedSimpArgs false
namespace Go.Proofs.YtkjcokmbjdafnaaDoor
open Go.Abs Go.Shelf Go.RowKit
def sortZ (zs : List Int) : List Int := zs.mergeSort fun x y => decide (x ≤ y)
theorem sort_c (zs : List Int) (hm : 0 < zs.length) (hB : zs.length ≤ 100000) (b st n : Nat) :
    CallS Tryd.prog 75 [.sl b st 0 zs.length] [(b, st, .rows 1 (zs.map zrw))] n (fun r h' _ => r = .tup [] ∧ h' = [(b, st, .rows 1 ((sortZ zs).map zrw))]) :=
  CallS.inplace zs (sortZ zs) hm (by simp [sortZ]) (fun _ _ _ => .tuple #[]) (.tup []) b st n (fun E cap _ _ _ _ => .tup [] #[] rfl (fun i c v h => by simp at h))
    (fun blk off cap w hH hb hcap => (Tryd.slices_Sort_int blk off cap zs w hH hb (by omega)).mono fun e w' h => h)
theorem compact_c (zs : List Int) (hm : 0 < zs.length) (hB : zs.length ≤ 100000) (b st n : Nat) :
    CallS Tryd.prog 76 [.sl b st 0 zs.length] [(b, st, .rows 1 (zs.map zrw))] n
      (fun r h' _ => r = .sl b st 0 (Lib.compact zs).length ∧ h' = [(b, st, .rows 1 ((Lib.compact zs ++ List.replicate (zs.length - (Lib.compact zs).length) 0).map zrw))]) := by
  have hle : (Lib.compact zs).length ≤ zs.length := Lib.compact_length_le zs
  refine CallS.inplace zs (Lib.compact zs ++ List.replicate (zs.length - (Lib.compact zs).length) 0) hm (by simp; omega) (fun blk off cap => .slice (some ⟨blk, off, none⟩) (Lib.compact zs).length cap) _ b st n ?_ ?_
  · intro E cap h1 h2 h3 h4
    have := R.sl (E := E) b st 0 (Lib.compact zs).length cap h1 (by omega) (by omega)
    simpa using this
  · intro blk off cap w hH hb hcap
    refine (Tryd.slices_Compact_int blk off cap zs w hH (by omega) hcap).mono ?_
    rintro e w' ⟨rfl, q, rfl⟩
    exact ⟨rfl, q, #[], by simp⟩
end Go.Proofs.YtkjcokmbjdafnaaDoor
