/-
 Arguments seen as data: what they are, by their types. No condition.
-/
import Derived.Test.YtilggmmkmegefaaGreatDoorTyp
set_option linter.unusedVariables false
set_option linter.unusedSimpArgs false
namespace Go.Abs
section
variable {P : Program} {M : Nat}
theorem P8.cons {t : TypeId} {ts : List TypeId} {as : List V} (h : P8 M P (t :: ts) as) : ∃ v vs, as = v :: vs ∧ ArgTB M P t v ∧ P8 M P ts vs := by
 cases as with
 | nil => exact h.elim
 | cons v vs => exact ⟨v, vs, rfl, h.1, h.2⟩
theorem P8.nil {as : List V} (h : P8 M P [] as) : as = [] := by
 cases as with
 | nil => rfl
 | cons v vs => exact h.elim
theorem TypedB.int_inv {t : TypeId} {k : IntKind} (hu : P.underlying t = some (.int k)) {vs : List V} (h : TypedB M P t vs) : ∃ n, vs = [.int k n] ∧ (Lit.int k n).wf = true := by
 cases h with
 | int h n hn => rw [hu] at h; cases h; exact ⟨n, rfl, hn⟩
 | bool h => rw [hu] at h; cases h
 | str h => rw [hu] at h; cases h
 | slice h => rw [hu] at h; cases h
 | struct h => rw [hu] at h; cases h
 | array h => rw [hu] at h; cases h
theorem TypedB.bool_inv {t : TypeId} (hu : P.underlying t = some .bool) {vs : List V} (h : TypedB M P t vs) : ∃ b, vs = [.bool b] := by
 cases h with
 | int h n hn => rw [hu] at h; cases h
 | bool h b => exact ⟨b, rfl⟩
 | str h => rw [hu] at h; cases h
 | slice h => rw [hu] at h; cases h
 | struct h => rw [hu] at h; cases h
 | array h => rw [hu] at h; cases h
theorem TypedB.str_inv {t : TypeId} (hu : P.underlying t = some .string) {vs : List V} (h : TypedB M P t vs) : ∃ s, vs = [.str s] ∧ s.length ≤ M := by
 cases h with
 | int h n hn => rw [hu] at h; cases h
 | bool h => rw [hu] at h; cases h
 | str h s hs => exact ⟨s, rfl, hs⟩
 | slice h => rw [hu] at h; cases h
 | struct h => rw [hu] at h; cases h
 | array h => rw [hu] at h; cases h
theorem TypedB.slice_inv {t e : TypeId} (hu : P.underlying t = some (.slice e)) {vs : List V} (h : TypedB M P t vs) : ∃ es, vs = [.isl es] ∧ es.length ≤ M ∧ ∀ row ∈ es, TypedB M P e row := by
 cases h with
 | int h n hn => rw [hu] at h; cases h
 | bool h => rw [hu] at h; cases h
 | str h => rw [hu] at h; cases h
 | slice h es hl hb he => rw [hu] at h; cases h; exact ⟨es, rfl, hl, he⟩
 | struct h => rw [hu] at h; cases h
 | array h => rw [hu] at h; cases h
theorem ArgTB.int {t : TypeId} {k : IntKind} (hu : P.underlying t = some (.int k)) {v : V} (h : ArgTB M P t v) : ∃ n, v = .int k n ∧ (Lit.int k n).wf = true := by
 cases h with
 | one v ha h => obtain ⟨n, h1, h2⟩ := h.int_inv hu; cases h1; exact ⟨n, rfl, h2⟩
 | agg vs ha h => simp [isAgg, hu] at ha
theorem ArgTB.bool {t : TypeId} (hu : P.underlying t = some .bool) {v : V} (h : ArgTB M P t v) : ∃ b, v = .bool b := by
 cases h with
 | one v ha h => obtain ⟨n, h1⟩ := h.bool_inv hu; cases h1; exact ⟨n, rfl⟩
 | agg vs ha h => simp [isAgg, hu] at ha
theorem ArgTB.str {t : TypeId} (hu : P.underlying t = some .string) {v : V} (h : ArgTB M P t v) : ∃ s, v = .str s ∧ s.length ≤ M := by
 cases h with
 | one v ha h => obtain ⟨n, h1, h2⟩ := h.str_inv hu; cases h1; exact ⟨n, rfl, h2⟩
 | agg vs ha h => simp [isAgg, hu] at ha
theorem ArgTB.slice {t e : TypeId} (hu : P.underlying t = some (.slice e)) {v : V} (h : ArgTB M P t v) : ∃ es, v = .isl es ∧ es.length ≤ M ∧ ∀ row ∈ es, TypedB M P e row := by
 cases h with
 | one v ha h => obtain ⟨n, h1, h2⟩ := h.slice_inv hu; cases h1; exact ⟨n, rfl, h2⟩
 | agg vs ha h => simp [isAgg, hu] at ha
theorem ArgTB.struct {t : TypeId} (ha' : isAgg P t = true) {v : V} (h : ArgTB M P t v) : ∃ vs, v = .agg vs ∧ TypedB M P t vs := by
 cases h with
 | one v ha h => rw [ha'] at ha; cases ha
 | agg vs ha h => exact ⟨vs, rfl, h⟩
def B4j (M : Nat) (P : Program) : List TypeId → List V → Prop
 | [], vs => vs = []
 | t :: ts, vs => ∃ a b, vs = a ++ b ∧ TypedB M P t a ∧ B4j M P ts b
theorem B1N : ∀ (fs : List Field) (cs : List (List V)), cs.length = fs.length → (∀ (i : Nat) f c, fs[i]? = some f → cs[i]? = some c → TypedB M P f.type c) → B4j M P (fs.map (·.type)) cs.flatten
 | [], [], _, _ => rfl
 | f :: fs, c :: cs, hl, h => ⟨c, cs.flatten, rfl, h 0 f c rfl rfl, B1N fs cs (by simpa using hl) fun i f c h1 h2 => h (i + 1) f c (by simpa using h1) (by simpa using h2)⟩
theorem TypedB.fields {t : TypeId} {fs : Array Field} (hu : P.underlying t = some (.struct fs)) {vs : List V} (h : TypedB M P t vs) : B4j M P (fs.toList.map (·.type)) vs := by
 cases h with
 | int h n hn => rw [hu] at h; cases h
 | bool h => rw [hu] at h; cases h
 | str h => rw [hu] at h; cases h
 | slice h => rw [hu] at h; cases h
 | struct h cs hl hf => rw [hu] at h; cases h; exact B1N _ _ hl hf
 | array h => rw [hu] at h; cases h
theorem rows_map {β : Type} {p : β → Prop} {f : β → List V} : ∀ {es : List (List V)}, (∀ row ∈ es, ∃ z, row = f z ∧ p z) → ∃ zs : List β, es = zs.map f ∧ ∀ z ∈ zs, p z
 | [], _ => ⟨[], rfl, by simp⟩
 | r :: es, h => by
  obtain ⟨z, rfl, hz⟩ := h r List.mem_cons_self
  obtain ⟨zs, rfl, hzs⟩ := rows_map fun row hr => h row (List.mem_cons_of_mem _ hr)
  exact ⟨z :: zs, rfl, by simpa [hz] using hzs⟩
theorem ArgTB.ints {t e : TypeId} {k : IntKind} (hu : P.underlying t = some (.slice e)) (he : P.underlying e = some (.int k)) {v : V} (h : ArgTB M P t v) :
  ∃ zs : List Int, v = .isl (zs.map fun z => [.int k z]) ∧ zs.length ≤ M ∧ ∀ z ∈ zs, (Lit.int k z).wf = true := by
 obtain ⟨es, rfl, h1, h2⟩ := h.slice hu
 obtain ⟨zs, rfl, h3⟩ := rows_map (f := fun z => [V.int k z]) (p := fun z => (Lit.int k z).wf = true) fun row hr => (h2 row hr).int_inv he
 exact ⟨zs, rfl, by simpa using h1, h3⟩
end
end Go.Abs
