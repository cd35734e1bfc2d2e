/-
  A listed table is a block of known data. No condition.
-/
import Derived.Test.YtnjbkhidikbeiaaGreatDoorPost
import Derived.Test.YtnjbkhidikbeiaaGreatDoorChecked
import Derived.Lib.LaidTab
import Derived.LaidHandle
import Derived.Shelf.Vars
import Derived.Handed
import Derived.Lib.ItoaNum
set_option linter.unusedVariables false
set_option linter.unusedSimpArgs false
set_option maxRecDepth 100000
namespace Go.Abs

theorem tab_of_vars {P : Program} {W : World} {name : String} {k : IntKind} {zs : List Int} {g : Nat} {t e : TypeId} {n : Nat}
    (hg : P.globalNamed name = some g) (hty : (P.globals[g]?).map (·.type) = some t) (ht : P.underlying t = some (.array n e)) (he : P.underlying e = some (.int k)) (hce : P.cellsOf e = 1) (hct : P.cellsOf t = n) :
    ∀ (laid : List (String × DataW Unit)) (ps : List MemPlace), DataW.LaidVars P W laid ps → (name, Lib.tabData k zs) ∈ laid → Lib.TabIs P W name k zs
  | [], _, _, h => by cases h
  | x :: r, ps, ⟨g', t', cs, fuel, p, q, hg', ht', hvar, hd, hr, _⟩, h => by
    rcases List.mem_cons.1 h with h | h
    · subst h
      obtain rfl := Option.some.inj (hg.symm.trans hg')
      obtain rfl := Option.some.inj (hty.symm.trans ht')
      unfold Lib.TabIs
      rw [hvar, ← Lib.cells_of_tab ht he hce hct hd]
    · exact tab_of_vars hg hty ht he hce hct r q hr h

/-- The table, as one of the abstract heap's globals. -/
def GlAt (W : World) (e : Nat × List V) : Prop := (∃ cs t z, W.heap[e.1]? = some (.cells cs t z) ∧ cs.size = e.2.length) ∧ ∀ (j : Nat) c, e.2[j]? = some c → ∃ x, W.cell? ⟨e.1, j, none⟩ = some x ∧ x.oneCell' = true ∧ R (env0 W fun x => False ∨ False) c x
theorem GlR.of_at {W : World} (h : ∀ e ∈ globs, GlAt W e) : GlR (envD W) := by
  intro e he
  obtain ⟨⟨cs, t, z, h1, h2⟩, h3⟩ := h e he
  refine ⟨⟨cs, t, z, h1, h2, fun h => h, fun h => h⟩, fun j c hj => ?_⟩
  obtain ⟨x, q1, q2, q3⟩ := h3 j c hj
  exact ⟨x, q1, q2, fun h => h, fun h => h, q3⟩
theorem glAt_tab {P : Program} {W : World} {name : String} {k : IntKind} {zs : List Int} {g : Nat} (hg : P.globalNamed name = some g) (h : Lib.TabIs P W name k zs) : GlAt W (g, zs.map (V.int k)) := by
  refine ⟨?_, fun j c hj => ?_⟩
  · have h2 := h
    unfold Lib.TabIs World.var? at h2
    rw [hg] at h2
    simp only [Option.bind_some] at h2
    split at h2
    · rename_i cs t z hh
      injection h2 with h2
      exact ⟨cs, t, z, hh, by rw [h2]; simp⟩
    · cases h2
  · simp only [List.getElem?_map, Option.map_eq_some_iff] at hj
    obtain ⟨z, hz, rfl⟩ := hj
    have hlt := (List.getElem?_eq_some_iff.1 hz).1
    have := h.cell hg j hlt
    rw [List.getD_eq_getElem?_getD, hz] at this
    exact ⟨_, this, rfl, .int k z⟩
theorem glAt_int {P : Program} {w : World} {g : Nat} {t : TypeId} {zero : Array Value} {k : IntKind} (h : w.ShapedOpen P) (hg : g < P.globals.size)
    (h0 : ((begin P (fun _ _ => 0) default).world.heap[g]?).bind Obj.row? = some (zero, t)) (hz : zero.size = 1)
    (hb : P.buildable t = true) (hc : P.cellTypes P.depth t = some [t]) (hu : P.underlying t = some (.int k)) : GlAt w (g, [.anyi k]) := by
  obtain ⟨m, hm⟩ := Go.Proofs.cell_of_shapedOpen_int h hg h0 hz hb hc hu
  obtain ⟨cs, hh, hs, _⟩ := h.1 g zero t hg h0
  refine ⟨?_, fun j c hj => ?_⟩
  · exact ⟨cs, t, _, hh, by rw [hs, hz]; rfl⟩
  · cases j with
    | zero => simp at hj; subst hj; exact ⟨_, hm, rfl, .anyi k m⟩
    | succ j => simp at hj

theorem ret_and_shaped {H : Type} {enc : TypeId × Value → H} {a : Assume} {C : Checked} {os : Os} {f : FuncId} {fn : Func} {s : ChangeSpec} {conds : List PathCond} {apart fresh handsOn again : Bool} {X : World → Array Value → Prop}
    (hX : ∀ (w w' : World) (args : Array Value), w.heap = w'.heap → X w args → X w' args)
    (own : ownKnob C.prog.godebug = none) (started : os.Started) (noInit : C.prog.inits.idxOf? f = none) (hfn : C.prog.funcs[f]? = some fn)
    (witness : ∃ (w : World) (tape : Tape) (i : Input), w.os = os ∧ (w.forCall tape i).Shaped C.prog ∧ i.vars = [] ∧ Input.okWide C.prog (w.forCall tape i) .any w.heap.size f i ∧
      ((s.pre enc C.prog fn conds apart (w.forCall tape i).memory i.args ∧ X (w.forCall tape i).memory i.args) ∧ sizedMet enc C.prog fn (OpenSpec.ofChange s) apart (w.forCall tape i).memory i.args) ∧ a.holds C.prog (lone (Frame.enter C.prog f i.args .normal) [] (w.forCall tape i)))
    (contract : ∀ (W : World) (base : Nat) (args : Array Value) (ds gs : List (DataW H)) (before : List MemPlace),
      (∀ (j : Nat) t v, fn.params[j]? = some t → args[j]? = some v → Value.okWide C.prog W .any base t v) →
      DataW.Whole enc C.prog fn.params.toList s.vars apart W args.toList ds gs before →
      (DataW.weightsEach C.prog (fn.params.toList ++ s.plain.varTypes C.prog) (ds ++ gs)).all (· ≤ reachBytes) = true → X W args → W.ShapedOpen C.prog →
      Calls C.prog f args W fun e W' => ∃ v, e = .returned v ∧ s.post enc C.prog fn apart fresh handsOn again W args v W') :
    ReturnsInHanded a C os f .any (fun w args => (s.pre enc C.prog fn conds apart w args ∧ X w args) ∧ sizedMet enc C.prog fn (OpenSpec.ofChange s) apart w args) (s.post enc C.prog fn apart fresh handsOn again) := by
  refine returnsInHanded_of_calls own started noInit witness ?_
  intro w tape i _ hsh _ hok hpre hholds
  obtain ⟨_, _, _, fn', hfn', _, _, _, _, hval⟩ := hok
  have e : fn' = fn := Option.some.inj (hfn'.symm.trans hfn)
  subst e
  obtain ⟨⟨⟨ds, gs, before, hw, hc⟩, hx⟩, hz⟩ := hpre
  have hw' := DataW.Whole.of_heap (w' := w.forCall tape i) (by rfl) hw
  refine (contract (w.forCall tape i) w.heap.size i.args ds gs before hval hw' (hz.weights hw) (hX _ _ _ (by rfl) hx) hsh).mono fun e W' ⟨v, he, hp⟩ => ?_
  subst he
  exact ChangeSpec.post_blind hp
end Go.Abs
namespace Go.Proofs.YtnjbkhidikbeiaaGreatDoor
open Go Go.Abs

def spaceTab : List Int := (List.range 256).map fun i => if (9 ≤ i ∧ i ≤ 13) ∨ i = 32 then 1 else 0

theorem glob_laid {laid : List (String × DataW Unit)} {W : World} (h : laidMetH Tryz.prog laid W) (hS : W.ShapedOpen Tryz.prog) (hn : (laid.filter fun x => x.2.handleName?.isSome) = [] := by rfl) (i j : Nat)
    (hm : laid[i]? = some ("strings.asciiSpace", Lib.tabData .u8 spaceTab) := by kernel_rfl) (hm2 : laid[j]? = some ("internal/strconv.uint64pow10", Lib.tabData .u64 Lib.pow10Tab) := by kernel_rfl) : GlR (envD W) := by
  have h : laidMet Tryz.prog laid W := by
    unfold laidMetH at h
    rw [hn] at h
    exact h
  obtain ⟨ps, hv, _⟩ := h
  refine GlR.of_at fun e he => ?_
  have he : e = (0, spaceTab.map (V.int .u8)) ∨ e = (4, Lib.pow10Tab.map (V.int .u64)) ∨ e = (5, [V.anyi .i64]) := by
    have : globs = [(0, spaceTab.map (V.int .u8)), (4, Lib.pow10Tab.map (V.int .u64)), (5, [V.anyi .i64])] := by rfl
    rw [this] at he
    simpa using he
  rcases he with rfl | rfl | rfl
  · exact glAt_tab (by kernel_rfl) (tab_of_vars (g := 0) (t := 77) (e := 5) (n := 256) (by kernel_rfl) (by kernel_rfl) (by kernel_rfl) (by kernel_rfl) (by kernel_rfl) (by kernel_rfl) laid ps hv (List.mem_of_getElem? hm))
  · exact glAt_tab (by kernel_rfl) (tab_of_vars (g := 4) (t := 153) (e := 114) (n := 20) (by kernel_rfl) (by kernel_rfl) (by kernel_rfl) (by kernel_rfl) (by kernel_rfl) (by kernel_rfl) laid ps hv (List.mem_of_getElem? hm2))
  · exact glAt_int (t := 3) (zero := #[.int .i64 0]) hS (of_decide_eq_true (by kernel_rfl)) (by kernel_rfl) rfl (by kernel_rfl) (by kernel_rfl) (by kernel_rfl)
end Go.Proofs.YtnjbkhidikbeiaaGreatDoor
