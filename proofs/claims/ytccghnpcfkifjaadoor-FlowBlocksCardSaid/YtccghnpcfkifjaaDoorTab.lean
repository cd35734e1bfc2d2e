/-
  A listed table is a block of known data. No condition.
-/
import Derived.Test.YtccghnpcfkifjaaDoorPost
import Derived.Test.YtccghnpcfkifjaaDoorChecked
import Derived.Lib.LaidTab
import Derived.LaidHandle
set_option linter.unusedVariables false
set_option linter.unusedSimpArgs false
set_option maxRecDepth 100000
namespace Go.Abs

theorem tab_of_vars {P : Program} {W : World} {name : String} {k : IntKind} {zs : List Int} {g : Nat} {t e : TypeId} {n : Nat}
    (hg : P.globalNamed name = some g) (hty : (P.globals[g]?).map (·.type) = some t) (ht : P.underlying t = some (.array n e)) (he : P.underlying e = some (.int k)) (hce : P.cellsOf e = 1) (hct : P.cellsOf t = n) :
    ∀ (laid : List (String × DataW Unit)) (ps : List MemPlace), DataW.LaidVars P W laid ps → (name, Lib.tabData k zs) ∈ laid → Lib.TabIs P W name k zs
  | [], _, _, h => by cases h
  | x :: r, ps, ⟨g', t', cs, fuel, p, q, hg', ht', hvar, hd, hr, _⟩, h => by
    rcases List.mem_cons.1 h with h | h
    · subst h
      obtain rfl := Option.some.inj (hg.symm.trans hg')
      obtain rfl := Option.some.inj (hty.symm.trans ht')
      unfold Lib.TabIs
      rw [hvar, ← Lib.cells_of_tab ht he hce hct hd]
    · exact tab_of_vars hg hty ht he hce hct r q hr h

/-- The table, as the abstract heap's global. -/
theorem glob_tab {P : Program} {W : World} {name : String} {k : IntKind} {zs : List Int} {g : Nat} (hg : P.globalNamed name = some g) (h : Lib.TabIs P W name k zs) (hgl : globs = [(g, zs.map (V.int k))]) : GlR (envD W) := by
  intro e he j c hj
  rw [hgl] at he
  obtain rfl := List.mem_singleton.1 he
  simp only [List.getElem?_map, Option.map_eq_some_iff] at hj
  obtain ⟨z, hz, rfl⟩ := hj
  have hlt := (List.getElem?_eq_some_iff.1 hz).1
  have := h.cell hg j hlt
  rw [List.getD_eq_getElem?_getD, hz] at this
  exact ⟨_, this, rfl, fun h => h, fun h => h, .int k z⟩
end Go.Abs
namespace Go.Proofs.YtccghnpcfkifjaaDoor
open Go Go.Abs

def spaceTab : List Int := (List.range 256).map fun i => if (9 ≤ i ∧ i ≤ 13) ∨ i = 32 then 1 else 0

theorem glob_laid {laid : List (String × DataW Unit)} {W : World} (h : laidMetH Tryd.prog laid W) (hn : (laid.filter fun x => x.2.handleName?.isSome) = [] := by rfl) (i : Nat := 1) (hm : laid[i]? = some ("strings.asciiSpace", Lib.tabData .u8 spaceTab) := by kernel_rfl) : GlR (envD W) := by
  have h : laidMet Tryd.prog laid W := by
    unfold laidMetH at h
    rw [hn] at h
    exact h
  obtain ⟨ps, hv, _⟩ := h
  exact glob_tab (g := 0) (by kernel_rfl) (tab_of_vars (g := 0) (t := 131) (e := 5) (n := 256) (by kernel_rfl) (by kernel_rfl) (by kernel_rfl) (by kernel_rfl) (by kernel_rfl) (by kernel_rfl) laid ps hv (List.mem_of_getElem? hm)) (by rfl)
end Go.Proofs.YtccghnpcfkifjaaDoor
