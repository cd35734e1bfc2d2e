/-
  Registry: the objects that both registries keep. No condition.
-/
import Derived.Test.YtlmmmplgogbjgaaRts
import Derived.Test.YtlmmmplgogbjgaaRegR
import Derived.Test.YtlmmmplgogbjgaaView
set_option linter.unusedVariables false
set_option linter.unusedSimpArgs false
set_option maxRecDepth 100000
set_option maxHeartbeats 0
namespace Go.Proofs.Ytlmmmplgogbjgaa
open Go.Abs
attribute [local irreducible] CallS Run
-- EV: RegH, RefH, nO, nM, nV, nF, nL, rO, rL, rF, rN, Val.v, Val.row, irow, prow, Val.none

/-- The identities of the objects that are kept. -/
def Reg.roots (R : Reg) : List Int := normZ (idsL (R.vals ++ R.names.map (·.2)))
theorem fold_succ {l : List Val} {i : Nat} {v : Val} (h : l[i]? = some v) (a : List Int) : (l.take (i + 1)).foldl insV a = insV ((l.take i).foldl insV a) v := by
  rw [List.take_add_one, h, Option.toList_some, List.foldl_append]; rfl

theorem fold_succ' {l : List Val} {i : Nat} {v : Val} {a : List Int} (h : l[i]? = some v) : (l.take (i + 1)).foldl insV a = insV ((l.take i).foldl insV a) v := fold_succ h a

theorem rroots_c (R : Reg) (so sl sf sn n : Nat) (hok : R.OK) : CallS Try.prog 28 [.ptr rO so 0 0] (RefH so sl sf sn R) n (fun r h' _ => r = .isl (R.roots.map zrw) ∧ h' = RefH so sl sf sn R) := by
  have h1 := hok.vals
  have h3 := hok.names
  refine CallS.enterK scriptingref18_Registry_Roots_ok (Nat.le_of_ble_eq_true rfl) fun Q hQ => Run.go 100 ?_
  simp -implicitDefEqProofs only [go_sem, RegH, RefH, nO, nM, nV, nF, nL, rO, rL, rF, rN, Val.v, Val.row, irow, prow, Val.none, initSl]
  refine Run.roundsK (fun (i : Nat) => ⟨[(4, .int .i64 i), (3, .isl (((R.vals.take i).foldl insV []).map zrw)), (0, .ptr rO so 0 0)], RefH so sl sf sn R, n⟩) (fun i => i ≤ R.vals.length) (fun i => R.vals.length - i) 0 ?_ (Nat.zero_le _) ?_
  · exact .turn id ⟨.refl _, .nilI, .refl _, trivial⟩ (.at 0 rfl rfl (.refl _) (.at 1 rfl rfl (.refl _) (.at 2 rfl rfl (.refl _) (.at 3 rfl rfl (.refl _) trivial))))
  · intro i hi ih
    refine Run.unf scriptingref18_Registry_Roots_l0_eq (Run.go 100 ?_)
    by_cases c : (i : Int) < R.vals.length
    · obtain ⟨v, hv⟩ : ∃ v, R.vals[i]? = some v := ⟨R.vals[i]'(by omega), by simp⟩
      have hw := rwith_pure ((R.vals.take i).foldl insV []) v (by have := foldV_len (R.vals.take i) []; simp at this; omega)
      rw [← fold_succ hv] at hw
      simp -implicitDefEqProofs only [go_sem, RegH, RefH, nO, nM, nV, nF, nL, rO, rL, rF, rN, Val.v, Val.row, irow, prow, Val.none, c]
      refine ⟨by omega, by omega, fun x hx => ?_⟩
      rw [hv] at hx
      injection hx with hx
      subst hx
      refine CallS.pureF hw (by simp -implicitDefEqProofs only [go_sem, RegH, RefH, nO, nM, nV, nF, nL, rO, rL, rF, rN, Val.v, Val.row, irow, prow, Val.none, subZ]) ?_
      simp -implicitDefEqProofs only [go_sem, RegH, RefH, nO, nM, nV, nF, nL, rO, rL, rF, rN, Val.v, Val.row, irow, prow, Val.none]
      exact ⟨by omega, ih _ (i + 1) (by omega) (by omega) (Weak.wk (by first | (simp -implicitDefEqProofs only [go_sem, RegH, RefH, nO, nM, nV, nF, nL, rO, rL, rF, rN, Val.v, Val.row, irow, prow, Val.none]; done) | (simp -implicitDefEqProofs only [go_sem, RegH, RefH, nO, nM, nV, nF, nL, rO, rL, rF, rN, Val.v, Val.row, irow, prow, Val.none]; simp)))⟩
    · obtain rfl : i = R.vals.length := by omega
      rw [List.take_length]
      simp -implicitDefEqProofs only [go_sem, RegH, RefH, nO, nM, nV, nF, nL, rO, rL, rF, rN, Val.v, Val.row, irow, prow, Val.none, c]
      have hbase : (R.vals.foldl insV []).length ≤ R.vals.length := by have := foldV_len R.vals []; simpa using this
      refine Run.rounds (fun (i : Nat) => ⟨[(5, .int .i64 i), (3, .isl ((((R.names.map (·.2)).take i).foldl insV (R.vals.foldl insV [])).map zrw)), (0, .ptr rO so 0 0)], RefH so sl sf sn R, n⟩) (fun i => i ≤ R.names.length) (fun i => R.names.length - i) 0 (by simp -implicitDefEqProofs only [go_sem, RegH, RefH, nO, nM, nV, nF, nL, rO, rL, rF, rN, Val.v, Val.row, irow, prow, Val.none, List.take_zero, List.foldl_nil]) (Nat.zero_le _) ?_
      clear ih c hi
      intro i hi ih
      refine Run.unf scriptingref18_Registry_Roots_l1_eq (Run.go 100 ?_)
      by_cases c : (i : Int) < R.names.length
      · obtain ⟨e, he⟩ : ∃ e, R.names[i]? = some e := ⟨R.names[i]'(by omega), by simp⟩
        have hv : (R.names.map (·.2))[i]? = some e.2 := by simp [he]
        have hw := rwith_pure (((R.names.map (·.2)).take i).foldl insV (R.vals.foldl insV [])) e.2 (by have := foldV_len ((R.names.map (·.2)).take i) (R.vals.foldl insV []); simp at this; omega)
        rw [← fold_succ' hv] at hw
        simp -implicitDefEqProofs only [go_sem, RegH, RefH, nO, nM, nV, nF, nL, rO, rL, rF, rN, Val.v, Val.row, irow, prow, Val.none, c]
        refine ⟨by omega, by omega, fun x hx => ?_⟩
        rw [he] at hx
        injection hx with hx
        subst hx
        refine CallS.pureF hw (by simp -implicitDefEqProofs only [go_sem, RegH, RefH, nO, nM, nV, nF, nL, rO, rL, rF, rN, Val.v, Val.row, irow, prow, Val.none, subZ]) ?_
        simp -implicitDefEqProofs only [go_sem, RegH, RefH, nO, nM, nV, nF, nL, rO, rL, rF, rN, Val.v, Val.row, irow, prow, Val.none]
        exact ⟨by omega, ih _ (i + 1) (by omega) (by omega) (by first | (simp -implicitDefEqProofs only [go_sem, RegH, RefH, nO, nM, nV, nF, nL, rO, rL, rF, rN, Val.v, Val.row, irow, prow, Val.none]; done) | (simp -implicitDefEqProofs only [go_sem, RegH, RefH, nO, nM, nV, nF, nL, rO, rL, rF, rN, Val.v, Val.row, irow, prow, Val.none]; simp))⟩
      · obtain rfl : i = R.names.length := by omega
        rw [show (R.names.map (·.2)).take R.names.length = R.names.map (·.2) from List.take_of_length_le (by simp), ← List.foldl_append, foldV_nil]
        subst hQ
        simp -implicitDefEqProofs only [go_sem, RegH, RefH, nO, nM, nV, nF, nL, rO, rL, rF, rN, Val.v, Val.row, irow, prow, Val.none, c]
        exact .is ⟨rfl, rfl⟩

theorem CallS.low {P : Program} {f : FuncId} {xs : List V} {h : Heap} {n : Nat} {k : Res} (hlt : (∀ e ∈ h, e.2.1 < n) → CallS P f xs h n k) : CallS P f xs h n k := by
  unfold CallS at hlt ⊢
  intro w O ρ cargs hr
  exact hlt hr.lt w O ρ cargs hr

theorem frzVal (d : Nat) (h : Heap) (l : List Val) : (l.map Val.row).map (fun r => r.map (frz d h)) = l.map Val.row := by
  rw [List.map_map]
  exact List.map_congr_left fun y _ => by cases d <;> simp [Val.row, frz, V.sub]
theorem valsz (l : List Val) : rowsz (l.map Val.row) 5 = True := eq_true fun r hr => by obtain ⟨y, _, rfl⟩ := List.mem_map.1 hr; rfl
abbrev gN : Nat := (42 * 10000 + 22)

theorem grow_c (z : Int) (h0 : 0 ≤ z) (hm : z ≤ 100000) (n : Nat) : CallS Try.prog 42 [.nils, .int .i64 z] [] n (fun r h' _ => (r = .nils ∧ h' = []) ∨ ∃ st rs, r = .sl gN st 0 0 ∧ h' = [(gN, st, .rows 5 rs)]) := by
  refine CallS.enterK slices_Grow_api_Value_api_Value_ok (Nat.le_of_ble_eq_true rfl) fun Q hQ => Run.go 100 ?_
  have c1 : (z < 0) = False := eq_false (by omega)
  simp -implicitDefEqProofs only [go_sem, RegH, RefH, nO, nM, nV, nF, nL, rO, rL, rF, rN, Val.v, Val.row, irow, prow, Val.none, initSl, c1]
  subst hQ
  exact ⟨⟨by omega, by omega⟩, fun c => ⟨by omega, by omega, by omega, .is (.inr ⟨n, _, rfl, rfl⟩)⟩, fun c => .is (.inl ⟨rfl, rfl⟩)⟩

theorem concat_pure (A B : List Val) (hA : A.length ≤ 10000) (hB : B.length ≤ 10000) : Pure Try.prog 37 [.isl [[.isl (A.map Val.row)], [.isl (B.map Val.row)]]] (.isl ((A ++ B).map Val.row)) := by
  have hlA : (A.map Val.row).length = A.length := List.length_map ..
  have hlB : (B.map Val.row).length = B.length := List.length_map ..
  have hzA := valsz A
  have hzB := valsz B
  have hAB : (A ++ B).map Val.row = A.map Val.row ++ B.map Val.row := List.map_append
  have hfA : ∀ d h, (A.map Val.row ++ B.map Val.row).map (fun r => r.map (frz d h)) = A.map Val.row ++ B.map Val.row := fun d h => by rw [← hAB]; exact frzVal d h _
  rw [hAB]
  refine Pure.of 1 (CallS.enter slices_Concat_api_Value_api_Value_ok (Nat.le_of_ble_eq_true rfl) (Run.go 100 ?_))
  have hz2 : rowsz [[V.isl (A.map Val.row)], [V.isl (B.map Val.row)]] 1 = True := eq_true fun r hr => by
    rcases List.mem_cons.1 hr with rfl | hr
    · rfl
    · rw [List.mem_singleton.1 hr]; rfl
  have htA : List.take A.length (A.map Val.row) = A.map Val.row := List.take_of_length_le (by simp)
  have htAB : List.take (A.length + B.length) (A.map Val.row ++ B.map Val.row) = A.map Val.row ++ B.map Val.row := List.take_of_length_le (by simp)
  have b3 : (A.length + B.length ≤ 137438953472) = True := eq_true (by omega)
  generalize A.map Val.row = LA at *
  generalize B.map Val.row = LB at *
  simp -implicitDefEqProofs only [go_sem, RegH, RefH, nO, nM, nV, nF, nL, rO, rL, rF, rN, Val.v, Val.row, irow, prow, Val.none, initSl]
  refine Run.loop (Run.unf slices_Concat_api_Value_api_Value_l0_eq (Run.go 100 ?_))
  simp -implicitDefEqProofs only [go_sem, RegH, RefH, nO, nM, nV, nF, nL, rO, rL, rF, rN, Val.v, Val.row, irow, prow, Val.none, hz2, hlA, Option.some.injEq, forall_eq']
  refine ⟨⟨by omega, by omega⟩, fun h => absurd h (by omega), fun _ => ?_⟩
  refine Run.lp (Run.unf slices_Concat_api_Value_api_Value_l0_eq (Run.go 100 ?_))
  simp -implicitDefEqProofs only [go_sem, RegH, RefH, nO, nM, nV, nF, nL, rO, rL, rF, rN, Val.v, Val.row, irow, prow, Val.none, hz2, hlB, Option.some.injEq, forall_eq']
  refine ⟨⟨by omega, by omega⟩, fun h => absurd h (by omega), fun _ => ?_⟩
  refine Run.lp (Run.unf slices_Concat_api_Value_api_Value_l0_eq (Run.go 100 ?_))
  simp -implicitDefEqProofs only [go_sem, RegH, RefH, nO, nM, nV, nF, nL, rO, rL, rF, rN, Val.v, Val.row, irow, prow, Val.none]
  refine (grow_c _ (by omega) (by omega) _).mono ?_
  rintro r h' n' (⟨rfl, rfl⟩ | ⟨st, rs, rfl, rfl⟩)
  · simp -implicitDefEqProofs only [go_sem, RegH, RefH, nO, nM, nV, nF, nL, rO, rL, rF, rN, Val.v, Val.row, irow, prow, Val.none]
    refine Run.loop (Run.unf slices_Concat_api_Value_api_Value_l1_eq (Run.go 100 ?_))
    simp -implicitDefEqProofs only [go_sem, RegH, RefH, nO, nM, nV, nF, nL, rO, rL, rF, rN, Val.v, Val.row, irow, prow, Val.none, hz2, hlA, Option.some.injEq, forall_eq']
    refine ⟨of_eq_true hzA, by omega, ?_⟩
    refine Run.lp (Run.unf slices_Concat_api_Value_api_Value_l1_eq (Run.go 100 ?_))
    simp -implicitDefEqProofs only [go_sem, RegH, RefH, nO, nM, nV, nF, nL, rO, rL, rF, rN, Val.v, Val.row, irow, prow, Val.none, hz2, hlA, hlB, hzB, htA, b3, Nat.le_refl, Option.some.injEq, forall_eq', gN]
    refine Run.lp (Run.unf slices_Concat_api_Value_api_Value_l1_eq (Run.go 100 ?_))
    simp -implicitDefEqProofs only [go_sem, RegH, RefH, nO, nM, nV, nF, nL, rO, rL, rF, rN, Val.v, Val.row, irow, prow, Val.none, hlA, hlB, htAB, b3, Nat.le_refl, gN]
    exact hfA _ _
  · simp -implicitDefEqProofs only [go_sem, RegH, RefH, nO, nM, nV, nF, nL, rO, rL, rF, rN, Val.v, Val.row, irow, prow, Val.none]
    refine Run.loop (Run.unf slices_Concat_api_Value_api_Value_l1_eq (Run.go 100 ?_))
    simp -implicitDefEqProofs only [go_sem, RegH, RefH, nO, nM, nV, nF, nL, rO, rL, rF, rN, Val.v, Val.row, irow, prow, Val.none, hz2, hlA, Option.some.injEq, forall_eq']
    refine ⟨of_eq_true hzA, by omega, by omega, ?_⟩
    refine Run.lp (Run.unf slices_Concat_api_Value_api_Value_l1_eq (Run.go 100 ?_))
    simp -implicitDefEqProofs only [go_sem, RegH, RefH, nO, nM, nV, nF, nL, rO, rL, rF, rN, Val.v, Val.row, irow, prow, Val.none, hz2, hlA, hlB, hzB, htA, b3, Nat.le_refl, Option.some.injEq, forall_eq', gN]
    refine Run.lp (Run.unf slices_Concat_api_Value_api_Value_l1_eq (Run.go 100 ?_))
    simp -implicitDefEqProofs only [go_sem, RegH, RefH, nO, nM, nV, nF, nL, rO, rL, rF, rN, Val.v, Val.row, irow, prow, Val.none, hlA, hlB, htAB, b3, Nat.le_refl, gN]
    exact hfA _ _

theorem same_sl0I {b st i : Nat} : SameV (.sl b st i 0) (.isl []) := fun E x h => by
  cases h with
  | sl b st i n cap h hn hc => exact .isl0 _ _
  | sl0 b st i a => exact .isl0 _ _
theorem subVal (l : List Val) : (l.map Val.row).map (fun r => r.map (V.sub lost)) = l.map Val.row := by
  rw [List.map_map]
  exact List.map_congr_left fun y _ => by simp [Val.row, V.sub]
theorem idsL_take {l : List Val} {k : Nat} {v : Val} (h : l[k]? = some v) : idsL (l.take (k + 1)) = if v.obj then idsL (l.take k) ++ [v.r] else idsL (l.take k) := by
  rw [List.take_add_one, h, Option.toList_some, idsL_append, idsL_cons, idsL_nil]
  split <;> simp

abbrev oN : Nat := (30 * 10000 + 24)
abbrev bN : Nat := (30 * 10000 + 5)
theorem ident_c (A B : List Val) (hA : A.length ≤ 10000) (hB : B.length ≤ 10000) (n : Nat) :
    CallS Try.prog 30 [.isl [[.isl (A.map Val.row)], [.isl (B.map Val.row)]]] [] n
      (fun r h' _ => (r = .isl [] ∧ h' = [] ∧ normZ (idsL (A ++ B)) = []) ∨ ∃ st pad, r = .sl oN st 0 (normZ (idsL (A ++ B))).length ∧ h' = [(oN, st, .rows 1 ((normZ (idsL (A ++ B)) ++ pad).map zrw))]) := by
  refine CallS.enterK registry_identities_ok (Nat.le_of_ble_eq_true rfl) fun Q hQ => Run.go 100 ?_
  have hcc := concat_pure A B hA hB
  have hsA := subVal A
  have hsB := subVal B
  have hCl : (A ++ B).length ≤ 20000 := by simp; omega
  generalize hC : A ++ B = C at *
  simp -implicitDefEqProofs only [go_sem, RegH, RefH, nO, nM, nV, nF, nL, rO, rL, rF, rN, Val.v, Val.row, irow, prow, Val.none, initSl]
  refine CallS.pureF hcc (by simp -implicitDefEqProofs only [go_sem, RegH, RefH, nO, nM, nV, nF, nL, rO, rL, rF, rN, Val.v, Val.row, irow, prow, Val.none, hsA, hsB]) ?_
  clear hsA hsB hcc
  have hl : (C.map Val.row).length = C.length := List.length_map ..
  have hr : ∀ (k : Nat) (x : Val), C[k]? = some x → (C.map Val.row)[k]? = some x.row := fun k x h => by rw [List.getElem?_map, h]; rfl
  have hz := valsz C
  generalize C.map Val.row = L at *
  simp -implicitDefEqProofs only [go_sem, RegH, RefH, nO, nM, nV, nF, nL, rO, rL, rF, rN, Val.v, Val.row, irow, prow, Val.none, hl]
  refine Run.roundsK (fun (x : Nat × Nat × Nat) => ⟨[(9, .int .i64 x.1), (8, .int .i64 C.length), (7, .isl L), (3, .sl oN x.2.1 0 (idsL (C.take x.1)).length)], [(oN, x.2.1, .rows 1 ((idsL (C.take x.1)).map zrw))], x.2.2⟩)
    (fun x => x.1 ≤ C.length) (fun x => C.length - x.1) (0, n, n + 1) ?_ (Nat.zero_le _) ?_
  · exact .trans (.fresh oN 1 _ _ _) (.turn id ⟨.refl _, .refl _, .refl _, .nils, trivial⟩ (.at 0 rfl rfl (.refl _) trivial))
  rintro ⟨k, st, m⟩ hk ih
  dsimp only at hk ih ⊢
  refine Run.unf registry_identities_l0_eq (Run.go 100 ?_)
  by_cases c : (k : Int) < C.length
  · obtain ⟨v, hv⟩ : ∃ v, C[k]? = some v := ⟨C[k]'(by omega), by simp⟩
    have hrv := hr k v hv
    have k0 : ((0 : Int) ≤ (k : Int)) = True := eq_true (by omega)
    have k1 : ((k : Int) < (C.length : Int)) = True := eq_true c
    have k2 : (k < C.length) = True := eq_true (by omega)
    have hit := idsL_take hv
    have hlen := idsL_len (C.take k)
    have hlen2 : (C.take k).length ≤ k := by simp; omega
    simp -implicitDefEqProofs only [go_sem, RegH, RefH, nO, nM, nV, nF, nL, rO, rL, rF, rN, Val.v, Val.row, irow, prow, Val.none, hl, hrv, hz, k0, k1, k2, Option.some.injEq, forall_eq', oN]
    refine ⟨fun d => ?_, fun d1 => ⟨fun d => ?_, fun d2 => ⟨fun d => ?_, fun d3 => ⟨fun d => ?_, fun d4 => ?_⟩⟩⟩⟩
    rotate_right
    · rw [obj_no d1 d2 d3 d4, if_neg (by simp)] at hit
      have ih2 := fun s => ih s (k + 1, st, m + 1) (by dsimp only; omega) (by dsimp only; omega)
      dsimp only at ih2
      rw [hit] at ih2
      exact ⟨⟨by omega, by omega⟩, ih2 _ (.turn id ⟨.refl _, .refl _, .refl _, .refl _, trivial⟩ (.at 1 rfl rfl (.refl _) trivial))⟩
    all_goals
      rw [if_pos (by simp [Val.obj, d])] at hit
      have ih2 := fun s => ih s (k + 1, m + 1, m + 1 + 1) (by dsimp only; omega) (by dsimp only; omega)
      dsimp only at ih2
      rw [hit] at ih2
      exact ⟨by omega, ⟨by omega, by omega⟩, ih2 _ (.turn id ⟨.refl _, .refl _, .refl _, .sl' (by simp), trivial⟩ (.at 0 rfl rfl (.of_eq (by simp [zrw])) trivial))⟩
  · obtain rfl : k = C.length := by omega
    rw [List.take_length]
    have hlen := idsL_len C
    clear ih
    by_cases he : idsL C = []
    · have hn : normZ (idsL C) = [] := by rw [he, normZ_nil]
      rw [he]
      simp -implicitDefEqProofs only [go_sem, RegH, RefH, nO, nM, nV, nF, nL, rO, rL, rF, rN, Val.v, Val.row, irow, prow, Val.none, c, oN]
      refine CallS.pre (xs' := [.isl []]) (h' := []) (n' := m) (.turn id ⟨same_sl0I, trivial⟩ trivial) rfl ?_
      refine CallS.pureF sort_nil (by simp -implicitDefEqProofs only [go_sem, RegH, RefH, nO, nM, nV, nF, nL, rO, rL, rF, rN, Val.v, Val.row, irow, prow, Val.none]) ?_
      simp -implicitDefEqProofs only [go_sem, RegH, RefH, nO, nM, nV, nF, nL, rO, rL, rF, rN, Val.v, Val.row, irow, prow, Val.none]
      refine CallS.pre (xs' := [.isl []]) (h' := []) (n' := m) (.turn id ⟨same_sl0I, trivial⟩ trivial) rfl ?_
      refine CallS.pureF compact_nil (by simp -implicitDefEqProofs only [go_sem, RegH, RefH, nO, nM, nV, nF, nL, rO, rL, rF, rN, Val.v, Val.row, irow, prow, Val.none]) ?_
      simp -implicitDefEqProofs only [go_sem, RegH, RefH, nO, nM, nV, nF, nL, rO, rL, rF, rN, Val.v, Val.row, irow, prow, Val.none]
      subst hQ
      exact .is (.inl ⟨rfl, rfl, hn⟩)
    · have hpos : 0 < (idsL C).length := List.length_pos_iff.2 he
      simp -implicitDefEqProofs only [go_sem, RegH, RefH, nO, nM, nV, nF, nL, rO, rL, rF, rN, Val.v, Val.row, irow, prow, Val.none, c, oN]
      refine (sort_c (idsL C) hpos (by omega) _ st m).mono ?_
      rintro r h' n' ⟨rfl, rfl⟩
      simp -implicitDefEqProofs only [go_sem, RegH, RefH, nO, nM, nV, nF, nL, rO, rL, rF, rN, Val.v, Val.row, irow, prow, Val.none]
      refine (compact_m (sortZ (idsL C)) (m := (idsL C).length) (by simp [sortZ]) hpos (by omega) _ st n').mono ?_
      rintro r h' n' ⟨rfl, rfl⟩
      simp -implicitDefEqProofs only [go_sem, RegH, RefH, nO, nM, nV, nF, nL, rO, rL, rF, rN, Val.v, Val.row, irow, prow, Val.none]
      subst hQ
      exact .is (.inr ⟨st, _, rfl, rfl⟩)

abbrev iN : Nat := (15 * 10000 + 12)
abbrev dN : Nat := (15 * 10000 + 20)
/-- An entry of a range over the names. -/
def lent (e : Nat × List UInt8 × Val) : Nat × V × V := (e.1, ent e.2)
theorem roots_c (R : Reg) (so sm sv sf n : Nat) (hok : R.OK) : CallS Try.prog 15 [.ptr nO so 0 0] (RegH so sm sv sf R) n (fun r h' _ => r = .isl (R.roots.map zrw) ∧ h' = RegH so sm sv sf R) := by
  refine CallS.low fun hlt => ?_
  have hsm : sm < n := hlt (nM, sm, .map (R.names.map ent)) (by simp [RegH])
  have h1 := hok.vals
  have h3 := hok.names
  refine CallS.enterK registry_Registry_Roots_ok (Nat.le_of_ble_eq_true rfl) fun Q hQ => Run.go 100 ?_
  simp -implicitDefEqProofs only [go_sem, RegH, RefH, nO, nM, nV, nF, nL, rO, rL, rF, rN, Val.v, Val.row, irow, prow, Val.none, initSl]
  intro bs ck hbs
  generalize hL : bs.zip R.names = L0
  have hz : bs.zip (R.names.map ent) = L0.map lent := by rw [← hL, List.zip_map_right]; rfl
  have hL0 : L0.map (·.2) = R.names := by rw [← hL]; exact List.map_snd_zip (by omega)
  rw [hz]
  refine Run.roundsK (fun (x : List Val × List (Nat × List UInt8 × Val) × Nat × Nat × Option (V × V)) => ⟨[(12, .ptr iN n 0 0), (3, .sl dN x.2.2.1 0 x.1.length), (0, .ptr nO so 0 0)],
      [(nM, sm, .mapb (R.names.map ent) bs ck), (iN, n, .iter sm (R.names.map ent) bs ck (x.2.1.map lent) x.2.2.2.2), (nO, so, .rows 3 [[.sl nV sv 0 R.vals.length, .sl nF sf 0 R.free.length, .mp nM sm]]),
       (nV, sv, .rows 5 (R.vals.map Val.row)), (nF, sf, .rows 1 (R.free.map irow)), (dN, x.2.2.1, .rows 5 (x.1.map Val.row))], x.2.2.2.1⟩)
    (fun x => n < x.2.2.2.1 ∧ x.1.length + x.2.1.length = R.names.length ∧ ∀ v, (v ∈ x.1 ∨ v ∈ x.2.1.map fun e => e.2.2) ↔ v ∈ R.names.map (·.2)) (fun x => x.2.1.length) ([], L0, n + 1, n + 1 + 1, none) ?_ ?_ ?_
  · exact .trans (.fresh dN 5 _ _ _) (.turn id ⟨.refl _, .nils, .refl _, trivial⟩ (.at 2 rfl rfl (.refl _) (.at 1 rfl rfl (.refl _) (.at 3 rfl rfl (.refl _) (.at 4 rfl rfl (.refl _) (.at 5 rfl rfl (.refl _) (.at 0 rfl rfl (.refl _) trivial)))))))
  · refine ⟨by dsimp only; omega, ?_, fun v => ?_⟩
    · rw [← hL0]; simp
    · rw [← hL0]; simp
  rintro ⟨D, L, st, m, last⟩ ⟨hm, hln, hmem⟩ ih
  dsimp only at hm hln hmem ih ⊢
  refine Run.unf registry_Registry_Roots_l0_eq (Run.go 100 ?_)
  have hns : (n = sm) = False := eq_false (by omega)
  simp -implicitDefEqProofs only [go_sem, RegH, RefH, nO, nM, nV, nF, nL, rO, rL, rF, rN, Val.v, Val.row, irow, prow, Val.none, iN, dN, hns]
  refine ⟨fun hL1 => ?_, fun x e y hx => ?_⟩
  · obtain rfl : L = [] := by simpa using hL1
    have hDl : D.length = R.names.length := by first | omega | simpa using hln
    have hme : ∀ x, x ∈ idsL (R.vals ++ D) ↔ x ∈ idsL (R.vals ++ R.names.map (·.2)) := fun x => by
      rw [mem_idsL, mem_idsL]
      constructor
      · rintro ⟨v, h, hv⟩
        refine ⟨v, ?_, hv⟩
        rcases List.mem_append.1 h with h | h
        · exact List.mem_append.2 (.inl h)
        · exact List.mem_append.2 (.inr ((hmem v).1 (.inl h)))
      · rintro ⟨v, h, hv⟩
        refine ⟨v, ?_, hv⟩
        rcases List.mem_append.1 h with h | h
        · exact List.mem_append.2 (.inl h)
        · rcases (hmem v).2 h with h | h
          · exact List.mem_append.2 (.inr h)
          · simp at h
    have hrt : normZ (idsL (R.vals ++ D)) = R.roots := normZ_eq (asc_normZ _) fun x => (hme x).trans mem_normZ_iff.symm
    have hid := ident_c R.vals D (by omega) (by omega) (m + 1)
    rw [hrt] at hid
    refine CallS.lend hid 2 (by simp -implicitDefEqProofs only [go_sem, RegH, RefH, nO, nM, nV, nF, nL, rO, rL, rF, rN, Val.v, Val.row, irow, prow, Val.none, frzVal]) ?_
    rintro r h' n' hn (⟨rfl, rfl, hr0⟩ | ⟨st2, pad, rfl, rfl⟩)
    · refine ⟨rfl, by simp, ?_⟩
      simp -implicitDefEqProofs only [go_sem, RegH, RefH, nO, nM, nV, nF, nL, rO, rL, rF, rN, Val.v, Val.row, irow, prow, Val.none]
      subst hQ
      exact .to ⟨by rw [hr0]; rfl, rfl⟩ (.sub (by simp -implicitDefEqProofs only [go_sem, RegH, RefH, nO, nM, nV, nF, nL, rO, rL, rF, rN, Val.v, Val.row, irow, prow, Val.none]))
    · refine ⟨rfl, fun e he => by rw [List.mem_singleton.1 he]; intro r hr; obtain ⟨y, _, rfl⟩ := List.mem_map.1 hr; rfl, ?_⟩
      simp -implicitDefEqProofs only [go_sem, RegH, RefH, nO, nM, nV, nF, nL, rO, rL, rF, rN, Val.v, Val.row, irow, prow, Val.none, oN]
      subst hQ
      have ht : (((R.roots ++ pad).map zrw).drop 0).take R.roots.length = R.roots.map zrw := by
        rw [List.drop_zero, List.map_append, show R.roots.length = (R.roots.map zrw).length from by simp, List.take_left]
      refine .to ⟨rfl, rfl⟩ (.freeze (b := oN) (st := st2) (sz := 1) (rs := (R.roots ++ pad).map zrw) (List.mem_cons_self ..) ⟨?_, trivial⟩ ?_)
      · rw [← ht]; exact .sl (by simp)
      · exact .at 4 rfl (by decide) (.of (.refl _)) (.at 2 rfl (by decide) (.of (.refl _)) (.at 5 rfl (by decide) (.of (.refl _)) (.at 6 rfl (by decide) (.of (.refl _)) trivial)))
  · obtain ⟨L1, L2, rfl, rfl, h2⟩ := List.map_eq_append_iff.1 hx
    obtain ⟨e0, L3, rfl, rfl, rfl⟩ := List.map_eq_cons_iff.1 h2
    obtain ⟨c0, key, v⟩ := e0
    simp -implicitDefEqProofs only [go_sem, RegH, RefH, nO, nM, nV, nF, nL, rO, rL, rF, rN, Val.v, Val.row, irow, prow, Val.none, lent, ent]
    refine ⟨by omega, ih _ (D ++ [v], L1 ++ L3, m + 1, m + 1 + 1, some (.str key, v.v)) ⟨by dsimp only; omega, by simp at hln ⊢; omega, fun w => ?_⟩ (by simp) ?_⟩
    · rw [← hmem w]
      simp only [List.mem_append, List.mem_singleton, List.map_append, List.map_cons, List.mem_cons]
      constructor
      · rintro ((h | h | h) | h | h) <;> first | (simp [h]; done) | (simp at h; done) | simp [h]
      · rintro (h | h | h | h) <;> simp [h]
    · exact .turn id ⟨.refl _, .sl' (by simp), .refl _, trivial⟩ (.at 3 rfl rfl (.refl _) (.at 2 rfl rfl (.of_eq (by simp [Val.v, Val.row, lent, ent])) (.at 4 rfl rfl (.refl _) (.at 5 rfl rfl (.refl _) (.at 6 rfl rfl (.refl _) (.at 0 rfl rfl (.of_eq (by simp [Val.row])) trivial))))))
end Go.Proofs.Ytlmmmplgogbjgaa
