/-
  The range over the functions within a function (proto.Each): contracts of its parts. No condition.
-/
import Derived.Test.YtmbidaochjjcfaaGreatDoorFnC
set_option linter.unusedVariables false
set_option linter.unusedSimpArgs false
set_option maxRecDepth 100000
set_option maxHeartbeats 0
namespace Go.Proofs.YtmbidaochjjcfaaGreatDoor
open Go.Abs
attribute [local irreducible] CallS Run RndS

theorem fn_row11 (p : Fn) : p.row.length = 11 ∧ p.row.take 11 = p.row := ⟨p.row_len, List.take_of_length_le (by rw [p.row_len]; exact Nat.le_refl _)⟩

theorem each_call (p : Fn) (n : Nat) : CallS Tryz.prog 11 [.agg p.row] [] n fun r h' n' => r = .fn 16 [.ptr (11 * 10000 + 1) n 0 0] ∧ h' = [((11 * 10000 + 1), n, .rows 11 [p.row])] ∧ n' = n + 1 := by
  obtain ⟨h1, h2⟩ := fn_row11 p
  generalize p.row = pr at *
  refine CallS.enterK proto_Each_ok (Nat.le_of_ble_eq_true rfl) fun Q hQ => Run.go 100 ?_
  simp -implicitDefEqProofs only [go_sem, initSl, h1, h2]
  subst hQ
  exact .is ⟨rfl, rfl, rfl⟩

/-- What a loop's rounds keep: J before a round, X behind one that leaves. -/
structure Rnds (nm st : Nat) (whole : List Fn) (J X : List Fn → Heap → Nat → Prop) : Prop where
  round : ∀ pre q rest h n, whole = pre ++ q :: rest → J pre h n → RndS Tryz.prog nm st [.agg q.row] h n fun r h' n' => (r = .bool true ∧ J (pre ++ [q]) h' n') ∨ (r = .bool false ∧ X (pre ++ [q]) h' n')
  up : ∀ pre h n n', n ≤ n' → J pre h n → J pre h n'
  apJ : ∀ pre h n, J pre h n → Apart h (17 * 10000 + 2) ∧ Apart h (17 * 10000 + 6)
  apX : ∀ pre h n, X pre h n → Apart h (17 * 10000 + 2) ∧ Apart h (17 * 10000 + 6)

theorem walkCall {nm st : Nat} {whole : List Fn} {J X : List Fn → Heap → Nat → Prop} (hR : Rnds nm st whole J X) (p : Fn) (hp : p.bd) : ∀ pre post h n, whole = pre ++ p.each ++ post → J pre h n →
    CallS Tryz.prog 17 [.agg p.row, .yld nm st] h n fun r h' n' => (r = .bool true ∧ J (pre ++ p.each) h' n') ∨ (r = .bool false ∧ ∃ pre' q rest, whole = pre' ++ q :: rest ∧ X (pre' ++ [q]) h' n') := by
  induction p using Fn.ind with
  | h p ih' =>
    intro pre post h n hw hJ
    have hp8 := hp.self.protos
    obtain ⟨a1, a2⟩ := hR.apJ _ _ _ hJ
    have d1 := a1.del
    have d2 := a2.del
    have hround := hR.round pre p (Fn.eachs p.protos ++ post) h (n + 1) (by rw [hw, Fn.each_eq]; simp) (hR.up _ _ _ _ (Nat.le_succ n) hJ)
    refine CallS.enterK proto_walk_ok (Nat.le_of_ble_eq_true rfl) fun Q hQ => Run.go 100 ?_
    obtain ⟨h1, h2⟩ := fn_row11 p
    have heq := p.row_eq
    have h8 : p.row[8]? = some (.isl (p.protos.map Fn.row)) := by rw [heq]; rfl
    have hpl : (p.protos.map Fn.row).length = p.protos.length := List.length_map ..
    have hrz := eq_true (rowsz_of Fn.row 11 Fn.row_len p.protos)
    have hrow : ∀ (k : Nat) q, p.protos[k]? = some q → (p.protos.map Fn.row)[k]? = some q.row := fun k q hk => by rw [List.getElem?_map, hk]; rfl
    clear heq
    generalize p.row = pr at *
    generalize p.protos.map Fn.row = es at *
    simp -implicitDefEqProofs only [go_sem, initSl, h1, h2, d1]
    refine RndS.use (rest := [_]) hround rfl (fun e he e' he' => by rw [List.mem_singleton.1 he]; exact a1 e' he') ?_
    rintro r h' n' hn (⟨rfl, hJ'⟩ | ⟨rfl, hX⟩)
    · simp -implicitDefEqProofs only [go_sem, h8]
      refine Run.roundsK (fun (x : Nat × Heap × Nat) => ⟨[(14, .int .i64 x.1), (13, .int .i64 p.protos.length), (12, .isl es), (2, .ptr (17 * 10000 + 2) n 0 0), (1, .yld nm st)], ((17 * 10000 + 2), n, .rows 11 [pr]) :: x.2.1, x.2.2⟩)
        (fun x => x.1 ≤ p.protos.length ∧ J (pre ++ [p] ++ Fn.eachs (p.protos.take x.1)) x.2.1 x.2.2) (fun x => p.protos.length - x.1) (0, h', n') ?_ ⟨Nat.zero_le _, by simpa [Fn.eachs] using hJ'⟩ ?_
      · refine Weak.wk ⟨slotsW_iff.1 (by simp -implicitDefEqProofs only [go_sem, hpl]), fun e he => ?_, Nat.le_refl _⟩
        simpa using he
      rintro ⟨k, h3, n3⟩ ⟨hk, hJ3⟩ ih
      simp only at hk hJ3 ih ⊢
      obtain ⟨b1, b2⟩ := hR.apJ _ _ _ hJ3
      have c1 := b1.del
      have c2 := b2.del
      refine Run.unf proto_walk_l0_eq (Run.go 100 ?_)
      by_cases hlt : k < p.protos.length
      · have q0 : ((k : Int) < (p.protos.length : Int)) = True := eq_true (by omega)
        have q1 : ((0 : Int) ≤ (k : Int)) = True := eq_true (by omega)
        obtain ⟨q, hq⟩ : ∃ q, p.protos[k]? = some q := ⟨p.protos[k], by simp [hlt]⟩
        have hqm : q ∈ p.protos := List.mem_of_getElem? hq
        have hqr := hrow k q hq
        have hql := q.row_len
        have htq : q.row.take 11 = q.row := List.take_of_length_le (by omega)
        have hzk : ((k : Int) + 1) = ((k + 1 : Nat) : Int) := by omega
        have hspl : p.protos = p.protos.take k ++ q :: p.protos.drop (k + 1) := by
          have := List.getElem_of_getElem? hq
          obtain ⟨hk', e⟩ := this
          rw [← e, List.getElem_cons_drop]; simp
        have hw3 : whole = (pre ++ [p] ++ Fn.eachs (p.protos.take k)) ++ q.each ++ (Fn.eachs (p.protos.drop (k + 1)) ++ post) := by
          have e1 : Fn.eachs p.protos = Fn.eachs (p.protos.take k) ++ (q.each ++ Fn.eachs (p.protos.drop (k + 1))) := by
            conv => lhs; rw [hspl]
            rw [Fn.eachs_append, Fn.eachs]
          rw [hw, Fn.each_eq p, e1]; simp
        have hcall := ih' q hqm (hp.child hqm) _ _ h3 (n3 + 1) hw3 (hR.up _ _ _ _ (Nat.le_succ n3) hJ3)
        have htk : Fn.eachs (p.protos.take (k + 1)) = Fn.eachs (p.protos.take k) ++ q.each := by
          rw [List.take_add_one, hq]; simp [Fn.eachs_append, Fn.eachs]
        generalize q.row = qr at *
        simp -implicitDefEqProofs only [go_sem, q0, q1, hpl, hrz, hqr, Option.some.injEq, forall_eq', hql, htq, List.append_nil, c2]
        refine ⟨hlt, ?_⟩
        refine CallS.use (rest := [_, _]) hcall rfl (fun e he e' he' => ?_) ?_
        · simp only [List.mem_cons, List.not_mem_nil, or_false] at he
          rcases he with rfl | rfl
          · exact b2 e' he'
          · exact b1 e' he'
        rintro r h4 n4 hn4 (⟨rfl, hJ4⟩ | ⟨rfl, pre', q', rest, hwx, hX⟩)
        · simp -implicitDefEqProofs only [go_sem]
          refine ⟨by omega, ?_⟩
          refine ih _ (k + 1, h4, n4) ⟨by simp only; omega, by simp only [htk]; rw [← List.append_assoc]; exact hJ4⟩ (by simp only; omega) (Weak.wk ⟨slotsW_iff.1 (by simp -implicitDefEqProofs only [go_sem, hzk]), fun e he => List.mem_cons_of_mem _ he, Nat.le_refl _⟩)
        · simp -implicitDefEqProofs only [go_sem]
          subst hQ
          refine .to (Or.inr ⟨rfl, pre', q', rest, hwx, hX⟩) (Weak.wk ⟨fun p hp => ?_, fun e he => List.mem_cons_of_mem _ (List.mem_cons_of_mem _ he), Nat.le_refl _⟩)
          rw [List.mem_singleton.1 hp]; rfl
      · have e : k = p.protos.length := by omega
        subst e
        simp -implicitDefEqProofs only [go_sem, Int.lt_irrefl]
        subst hQ
        rw [List.take_length] at hJ3
        refine .to (Or.inl ⟨rfl, by rw [Fn.each_eq]; simpa using hJ3⟩) (Weak.wk ⟨fun p hp => ?_, fun e he => List.mem_cons_of_mem _ he, Nat.le_refl _⟩)
        rw [List.mem_singleton.1 hp]; rfl
    · simp -implicitDefEqProofs only [go_sem]
      subst hQ
      refine .to (Or.inr ⟨rfl, pre, p, Fn.eachs p.protos ++ post, by rw [hw, Fn.each_eq]; simp, hX⟩) (Weak.wk ⟨fun p hp => ?_, fun e he => List.mem_cons_of_mem _ he, Nat.le_refl _⟩)
      rw [List.mem_singleton.1 hp]; rfl

theorem each1_call {nm st b sb : Nat} {J X : List Fn → Heap → Nat → Prop} (p : Fn) (hp : p.bd) (hR : Rnds nm st p.each J X) (h : Heap) (n : Nat) (hg : Heap.get h b sb = some (.rows 11 [p.row])) (hJ : J [] h n) :
    CallS Tryz.prog 16 [.yld nm st, .ptr b sb 0 0] h n fun r h' n' => J p.each h' n' ∨ ∃ pre' q rest, p.each = pre' ++ q :: rest ∧ X (pre' ++ [q]) h' n' := by
  obtain ⟨h1, h2⟩ := fn_row11 p
  have hc := copied_pure p hp
  have hs := Fn.row_sub lost p
  have hw := walkCall hR p hp [] [] h n (by simp) hJ
  generalize p.row = pr at *
  refine CallS.enterK proto_Each_1_ok (Nat.le_of_ble_eq_true rfl) fun Q hQ => Run.go 100 ?_
  simp -implicitDefEqProofs only [go_sem, initSl, hg, h1, h2]
  refine CallS.pureF hc (by simp -implicitDefEqProofs only [go_sem, hs]) ?_
  simp -implicitDefEqProofs only [go_sem]
  refine hw.mono ?_
  rintro r h' n' (⟨rfl, hJ'⟩ | ⟨rfl, pre', q', rest, hwx, hX⟩)
  · simp -implicitDefEqProofs only [go_sem]
    subst hQ
    exact .is (.inl (by simpa using hJ'))
  · simp -implicitDefEqProofs only [go_sem]
    subst hQ
    exact .is (.inr ⟨pre', q', rest, hwx, hX⟩)
end Go.Proofs.YtmbidaochjjcfaaGreatDoor
