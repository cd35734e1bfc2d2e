/-
  slices.Sort and slices.Compact of integers, by the shelf's contracts. No condition.
-/
import Derived.Test.YtmpkdkadnhindaaDoorSrt
import Derived.Test.YtmpkdkadnhindaaDoorShelf
set_option linter.unusedVariables false
set_option linter.unusedSimpArgs false
namespace Go.Proofs.YtmpkdkadnhindaaDoor
open Go.Abs Go.Shelf Go.RowKit

def sortZ (zs : List Int) : List Int := zs.mergeSort fun x y => decide (x ≤ y)

theorem sort_c (zs : List Int) (hm : 0 < zs.length) (hB : zs.length ≤ 100000) (b st n : Nat) :
    CallS Tryd.prog 74 [.sl b st 0 zs.length] [(b, st, .rows 1 (zs.map zrw))] n (fun r h' _ => r = .tup [] ∧ h' = [(b, st, .rows 1 ((sortZ zs).map zrw))]) :=
  CallS.inplace zs (sortZ zs) hm (by simp [sortZ]) (fun _ _ _ => .tuple #[]) (.tup []) b st n (fun E cap _ _ _ _ => .tup [] #[] rfl (fun i c v h => by simp at h))
    (fun blk off cap w hH hb hcap => (Tryd.slices_Sort_int blk off cap zs w hH hb (by omega)).mono fun e w' h => h)

theorem sort_nil : Abs.Pure Tryd.prog 74 [.isl []] (.tup []) := by
  intro w O cargs _ _ hR
  obtain ⟨hl, hR⟩ := hR
  obtain ⟨cs⟩ := cargs
  match cs, hl with
  | [v], _ =>
    obtain ⟨p, cap, hv⟩ : ∃ p cap, v = .slice p 0 cap := by
      have h := hR 0 _ v rfl rfl
      cases h with
      | isl _ p cap sz f hp hcap hrow hcell hR => exact ⟨_, _, rfl⟩
      | isl0 a cap => exact ⟨_, _, rfl⟩
    subst hv
    refine (Tryd.slices_Sort_int_none p cap w).mono ?_
    rintro e w' ⟨rfl, rfl⟩
    exact ⟨_, rfl, .tup [] #[] rfl (fun i c v h => by simp at h), Wd.refl _, fun _ _ => rfl⟩

theorem compact_c (zs : List Int) (hm : 0 < zs.length) (hB : zs.length ≤ 100000) (b st n : Nat) :
    CallS Tryd.prog 75 [.sl b st 0 zs.length] [(b, st, .rows 1 (zs.map zrw))] n
      (fun r h' _ => r = .sl b st 0 (Lib.compact zs).length ∧ h' = [(b, st, .rows 1 ((Lib.compact zs ++ List.replicate (zs.length - (Lib.compact zs).length) 0).map zrw))]) := by
  have hle : (Lib.compact zs).length ≤ zs.length := Lib.compact_length_le zs
  refine CallS.inplace zs (Lib.compact zs ++ List.replicate (zs.length - (Lib.compact zs).length) 0) hm (by simp; omega) (fun blk off cap => .slice (some ⟨blk, off, none⟩) (Lib.compact zs).length cap) _ b st n ?_ ?_
  · intro E cap h1 h2 h3 h4
    have := R.sl (E := E) b st 0 (Lib.compact zs).length cap h1 (by omega) (by omega)
    simpa using this
  · intro blk off cap w hH hb hcap
    refine (Tryd.slices_Compact_int blk off cap zs w hH (by omega) hcap).mono ?_
    rintro e w' ⟨rfl, q, rfl⟩
    exact ⟨rfl, q, #[], by simp⟩

theorem compact_nil : Abs.Pure Tryd.prog 75 [.isl []] (.isl []) := by
  intro w O cargs _ _ hR
  obtain ⟨hl, hR⟩ := hR
  obtain ⟨cs⟩ := cargs
  match cs, hl with
  | [v], _ =>
    obtain ⟨p, cap, hv⟩ : ∃ p cap, v = .slice p 0 cap := by
      have h := hR 0 _ v rfl rfl
      cases h with
      | isl _ p cap sz f hp hcap hrow hcell hR => exact ⟨_, _, rfl⟩
      | isl0 a cap => exact ⟨_, _, rfl⟩
    subst hv
    refine (Tryd.slices_Compact_int_empty p cap w).mono ?_
    rintro e w' ⟨rfl, rfl⟩
    exact ⟨_, rfl, .isl0 _ _, Wd.refl _, fun _ _ => rfl⟩
end Go.Proofs.YtmpkdkadnhindaaDoor
