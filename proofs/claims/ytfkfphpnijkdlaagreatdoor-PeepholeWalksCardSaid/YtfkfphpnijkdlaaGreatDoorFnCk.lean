/-
 Functions within functions, their parts, copies. No condition.
-/
import Derived.Test.YtfkfphpnijkdlaaGreatDoorFn
import Derived.Test.YtfkfphpnijkdlaaGreatDoorRnd
import Derived.Test.YtfkfphpnijkdlaaGreatDoorCode
set_option linter.unusedVariables false
set_option linter.unusedSimpArgs false
set_option maxRecDepth 100000
set_option maxHeartbeats 0
namespace Go.Proofs.YtfkfphpnijkdlaaGreatDoor
open Go.Abs
attribute [local irreducible] CallS Run RndS
theorem frz_rows {d : Nat} {h : Heap} {es : List (List V)} (hs : ∀ φ, es.map (fun r => r.map (V.sub φ)) = es) : es.map (fun r => r.map (frz d h)) = es := by
 obtain ⟨φ, e⟩ := frz_eq (d := d) (h := h)
 rw [e]; exact hs φ
theorem clone_ins (es : List (List V)) (hz : rowsz es 5) (hl : es.length ≤ 3518437208883) (hs : ∀ φ, es.map (fun r => r.map (V.sub φ)) = es) : Pure Tryz.prog 75 [.isl es] (.isl es) := by
 have hz' : rowsz es 5 = True := eq_true hz
 have hl' := eq_true hl
 refine Pure.of 1 (CallS.enter slices_Clone_api_Instr_api_Instr_ok (Nat.le_of_ble_eq_true rfl) (Run.go 100 ?_))
 simp -implicitDefEqProofs only [go_sem, initSl, hz', hl']
 exact ⟨frz_rows hs, fun e => e.symm⟩
theorem clone_int (es : List (List V)) (hz : rowsz es 1) (hl : es.length ≤ 17592186044416) (hs : ∀ φ, es.map (fun r => r.map (V.sub φ)) = es) : Pure Tryz.prog 39 [.isl es] (.isl es) := by
 have hz' : rowsz es 1 = True := eq_true hz
 have hl' := eq_true hl
 refine Pure.of 1 (CallS.enter slices_Clone_int_int_ok (Nat.le_of_ble_eq_true rfl) (Run.go 100 ?_))
 simp -implicitDefEqProofs only [go_sem, initSl, hz', hl']
 exact ⟨frz_rows hs, fun e => e.symm⟩
theorem clone_kst (es : List (List V)) (hz : rowsz es 5) (hl : es.length ≤ 2932031007402) (hs : ∀ φ, es.map (fun r => r.map (V.sub φ)) = es) : Pure Tryz.prog 76 [.isl es] (.isl es) := by
 have hz' : rowsz es 5 = True := eq_true hz
 have hl' := eq_true hl
 refine Pure.of 1 (CallS.enter slices_Clone_api_Value_api_Value_ok (Nat.le_of_ble_eq_true rfl) (Run.go 100 ?_))
 simp -implicitDefEqProofs only [go_sem, initSl, hz', hl']
 exact ⟨frz_rows hs, fun e => e.symm⟩
theorem clone_up (es : List (List V)) (hz : rowsz es 3) (hl : es.length ≤ 4398046511104) (hs : ∀ φ, es.map (fun r => r.map (V.sub φ)) = es) : Pure Tryz.prog 77 [.isl es] (.isl es) := by
 have hz' : rowsz es 3 = True := eq_true hz
 have hl' := eq_true hl
 refine Pure.of 1 (CallS.enter slices_Clone_api_Up_api_Up_ok (Nat.le_of_ble_eq_true rfl) (Run.go 100 ?_))
 simp -implicitDefEqProofs only [go_sem, initSl, hz', hl']
 exact ⟨frz_rows hs, fun e => e.symm⟩
theorem clone_vr (es : List (List V)) (hz : rowsz es 5) (hl : es.length ≤ 2932031007402) (hs : ∀ φ, es.map (fun r => r.map (V.sub φ)) = es) : Pure Tryz.prog 78 [.isl es] (.isl es) := by
 have hz' : rowsz es 5 = True := eq_true hz
 have hl' := eq_true hl
 refine Pure.of 1 (CallS.enter slices_Clone_api_Var_api_Var_ok (Nat.le_of_ble_eq_true rfl) (Run.go 100 ?_))
 simp -implicitDefEqProofs only [go_sem, initSl, hz', hl']
 exact ⟨frz_rows hs, fun e => e.symm⟩
theorem rowsz_of {α : Type} (f : α → List V) (sz : Nat) (h : ∀ x, (f x).length = sz) (l : List α) : rowsz (l.map f) sz := fun r hr => by
 obtain ⟨y, _, rfl⟩ := List.mem_map.1 hr
 exact h y
theorem copied_pure (p : Fn) (hw : p.bd) : Pure Tryz.prog 60 [.agg p.row] (.agg p.row) := by
 induction p using Fn.ind with
 | h p ih' =>
  have hl := hw.self
  have c1 := clone_ins (p.code.map Ins.row) (rowsz_of _ 5 (fun _ => rfl) _) (by rw [List.length_map]; exact Nat.le_trans hl.code (by decide)) (fun φ => map_sub_rows φ _ _ fun x _ => Ins.row_sub φ x)
  have c2 := clone_int (p.lines.map lrow) (rowsz_of _ 1 (fun _ => rfl) _) (by rw [List.length_map]; exact Nat.le_trans hl.lines (by decide)) (fun φ => map_sub_rows φ _ _ fun x _ => lrow_sub φ x)
  have c3 := clone_kst (p.consts.map Kst.row) (rowsz_of _ 5 (fun _ => rfl) _) (by rw [List.length_map]; exact Nat.le_trans hl.consts (by decide)) (fun φ => map_sub_rows φ _ _ fun x _ => Kst.row_sub φ x)
  have c4 := clone_up (p.ups.map Upv.row) (rowsz_of _ 3 (fun _ => rfl) _) (by rw [List.length_map]; exact Nat.le_trans hl.ups (by decide)) (fun φ => map_sub_rows φ _ _ fun x _ => Upv.row_sub φ x)
  have c5 := clone_vr (p.vars.map Vr.row) (rowsz_of _ 5 (fun _ => rfl) _) (by rw [List.length_map]; exact Nat.le_trans hl.vars (by decide)) (fun φ => map_sub_rows φ _ _ fun x _ => Vr.row_sub φ x)
  have g1 := fun φ => map_sub_rows φ _ p.code fun x _ => Ins.row_sub φ x
  have s1 := g1 lost
  have f1 := fun d h => frz_rows (d := d) (h := h) g1
  have g2 := fun φ => map_sub_rows φ _ p.lines fun x _ => lrow_sub φ x
  have s2 := g2 lost
  have f2 := fun d h => frz_rows (d := d) (h := h) g2
  have g3 := fun φ => map_sub_rows φ _ p.consts fun x _ => Kst.row_sub φ x
  have s3 := g3 lost
  have f3 := fun d h => frz_rows (d := d) (h := h) g3
  have g4 := fun φ => map_sub_rows φ _ p.ups fun x _ => Upv.row_sub φ x
  have s4 := g4 lost
  have f4 := fun d h => frz_rows (d := d) (h := h) g4
  have g5 := fun φ => map_sub_rows φ _ p.vars fun x _ => Vr.row_sub φ x
  have s5 := g5 lost
  have f5 := fun d h => frz_rows (d := d) (h := h) g5
  refine Pure.of 1 (CallS.enter proto_copied_ok (Nat.le_of_ble_eq_true rfl) ?_)
  rw [Fn.row_eq p]
  generalize p.code.map Ins.row = e1 at *
  generalize p.lines.map lrow = e2 at *
  generalize p.consts.map Kst.row = e3 at *
  generalize p.ups.map Upv.row = e4 at *
  generalize p.vars.map Vr.row = e5 at *
  refine Run.go 100 ?_
  simp -implicitDefEqProofs only [go_sem, initSl]
  refine pcallK.pureF c1 (by simp -implicitDefEqProofs only [go_sem, s1]) ?_
  simp -implicitDefEqProofs only [go_sem]
  refine pcallK.pureF c2 (by simp -implicitDefEqProofs only [go_sem, s2]) ?_
  simp -implicitDefEqProofs only [go_sem]
  refine pcallK.pureF c3 (by simp -implicitDefEqProofs only [go_sem, s3]) ?_
  simp -implicitDefEqProofs only [go_sem]
  refine pcallK.pureF c4 (by simp -implicitDefEqProofs only [go_sem, s4]) ?_
  simp -implicitDefEqProofs only [go_sem]
  refine pcallK.pureF c5 (by simp -implicitDefEqProofs only [go_sem, s5]) ?_
  simp -implicitDefEqProofs only [go_sem]
  have hlen : (p.protos.map Fn.row).length = p.protos.length := List.length_map ..
  have hpl := hl.protos
  have hrz := eq_true (rowsz_of Fn.row 11 Fn.row_len p.protos)
  have hrow : ∀ (k : Nat) q, p.protos[k]? = some q → (p.protos.map Fn.row)[k]? = some q.row := fun k q hk => by rw [List.getElem?_map, hk]; rfl
  have hsub := fun φ => Fn.rows_sub φ p.protos
  have htk : ∀ (k : Nat) q, p.protos[k]? = some q → (p.protos.take (k + 1)).map Fn.row = (p.protos.take k).map Fn.row ++ [q.row] := fun k q hk => by
   rw [List.take_add_one, hk]; simp
  have htl : ∀ k, ((p.protos.take k).map Fn.row).length = min k p.protos.length := fun k => by simp
  have hta : (p.protos.take p.protos.length).map Fn.row = p.protos.map Fn.row := by rw [List.take_length]
  have ht0 : (p.protos.take 0).map Fn.row = [] := rfl
  generalize hP : p.protos.map Fn.row = es at *
  generalize hT : (fun k => (p.protos.take k).map Fn.row) = T
  have hT' : ∀ k, (p.protos.take k).map Fn.row = T k := fun k => by rw [← hT]
  simp only [hT'] at htk htl hta ht0
  refine Run.roundsK (fun (x : Nat × Nat × Nat) => ⟨[(29, .int .i64 x.1), (28, .int .i64 p.protos.length), (27, .isl es), (3, .sl (60 * 10000 + 37) x.2.1 0 x.1), (2, .ptr (60 * 10000 + 2) 1 0 0), (1, .ptr (60 * 10000 + 1) 0 0 0)],
    [((60 * 10000 + 37), x.2.1, .rows 11 (T x.1)), ((60 * 10000 + 1), 0, .rows 11 [[.str p.name, .int .i64 p.line, .int .i64 p.params, .bool p.vararg, .int .i64 p.regs, .isl e1, .isl e2, .isl e3, .isl es, .isl e4, .isl e5]]), ((60 * 10000 + 2), 1, .rows 11 [[.str [], .int .i64 0, .int .i64 0, .bool false, .int .i64 0, .nils, .nils, .nils, .nils, .nils, .nils]])], x.2.2⟩)
   (fun x => x.1 ≤ p.protos.length) (fun x => p.protos.length - x.1) (0, 2, 3) ?_ (Nat.zero_le _) ?_
  ·refine .trans (.fresh (60 * 10000 + 37) 11 _ _ _) (.turn id ⟨.refl _, .refl _, .refl _, .nils, .refl _, .refl _, trivial⟩ (.at 0 rfl rfl (.of_eq (by simp only [ht0])) (.at 1 rfl rfl (.refl _) (.at 2 rfl rfl (.refl _) trivial))))
  rintro ⟨k, st, m⟩ hk ih
  simp only at hk ih ⊢
  refine Run.unf proto_copied_l0_eq (Run.go 100 ?_)
  by_cases hlt : k < p.protos.length
  ·have q0 : ((k : Int) < (p.protos.length : Int)) = True := eq_true (by omega)
   have q1 : ((0 : Int) ≤ (k : Int)) = True := eq_true (by omega)
   obtain ⟨q, hq⟩ : ∃ q, p.protos[k]? = some q := ⟨p.protos[k], by simp [hlt]⟩
   have hqm : q ∈ p.protos := List.mem_of_getElem? hq
   have hqr := hrow k q hq
   have hql := q.row_len
   have hqs := Fn.row_sub lost q
   have hih := ih' q hqm (hw.child hqm)
   have hTl : (T k).length = k := by rw [htl]; omega
   have hTk := htk k q hq
   have hzk : ((k : Int) + 1) = ((k + 1 : Nat) : Int) := by omega
   have hap : (k + 1 ≤ 733007751850) = True := eq_true (by omega)
   have hTt : (T k).take k = T k := List.take_of_length_le (by omega)
   have htq : q.row.take 11 = q.row := List.take_of_length_le (by omega)
   generalize q.row = qr at *
   simp -implicitDefEqProofs only [go_sem, q0, q1, hlen, hrz, hqr, Option.some.injEq, forall_eq', hql, htq, List.append_nil]
   refine ⟨hlt, ?_⟩
   refine CallS.pureF hih (by simp -implicitDefEqProofs only [go_sem, hqs]) ?_
   simp -implicitDefEqProofs only [go_sem, hql, hTl, hap, hTt, htq]
   refine ⟨by omega, ?_⟩
   refine ih _ (k + 1, m + 1, m + 2) (by simp only; omega) (by simp only; omega) (Weak.wk ?_)
   simp only [← hzk, hTk]
   simp -implicitDefEqProofs only [go_sem]
  ·have e : k = p.protos.length := by omega
   subst e
   simp -implicitDefEqProofs only [go_sem, Int.lt_irrefl]
   have hTl : (T p.protos.length).length = p.protos.length := by rw [htl]; omega
   have e2 : Nat.ble p.protos.length (T p.protos.length).length = true := Nat.ble_eq_true_of_le (by omega)
   have e3 : (T p.protos.length).take p.protos.length = es := by rw [List.take_of_length_le (by omega), hta]
   have e4 := fun d h => frz_rows (d := d) (h := h) hsub
   simp only [f1, f2, f3, f4, f5, e3, if_pos (Nat.le_of_ble_eq_true e2), e4, and_self]
theorem fn_row11 (p : Fn) : p.row.length = 11 ∧ p.row.take 11 = p.row := ⟨p.row_len, List.take_of_length_le (by rw [p.row_len]; exact Nat.le_refl _)⟩
theorem each_call (p : Fn) (n : Nat) : CallS Tryz.prog 36 [.agg p.row] [] n fun r h' n' => r = .fn 58 [.ptr (36 * 10000 + 1) n 0 0] ∧ h' = [((36 * 10000 + 1), n, .rows 11 [p.row])] ∧ n' = n + 1 := by
 obtain ⟨h1, h2⟩ := fn_row11 p
 generalize p.row = pr at *
 refine CallS.enterK proto_Each_ok (Nat.le_of_ble_eq_true rfl) fun Q hQ => Run.go 100 ?_
 simp -implicitDefEqProofs only [go_sem, initSl, h1, h2]
 subst hQ
 exact .is ⟨rfl, rfl, rfl⟩
structure Rnds (nm st : Nat) (whole : List Fn) (J X : List Fn → Heap → Nat → Prop) : Prop where
 round : ∀ pre q rest h n, whole = pre ++ q :: rest → J pre h n → RndS Tryz.prog nm st [.agg q.row] h n fun r h' n' => (r = .bool true ∧ J (pre ++ [q]) h' n') ∨ (r = .bool false ∧ X (pre ++ [q]) h' n')
 up : ∀ pre h n n', n ≤ n' → J pre h n → J pre h n'
 apJ : ∀ pre h n, J pre h n → Apart h (59 * 10000 + 2) ∧ Apart h (59 * 10000 + 6)
 apX : ∀ pre h n, X pre h n → Apart h (59 * 10000 + 2) ∧ Apart h (59 * 10000 + 6)
theorem walkCall {nm st : Nat} {whole : List Fn} {J X : List Fn → Heap → Nat → Prop} (hR : Rnds nm st whole J X) (p : Fn) (hp : p.bd) : ∀ pre post h n, whole = pre ++ p.each ++ post → J pre h n →
  CallS Tryz.prog 59 [.agg p.row, .yld nm st] h n fun r h' n' => (r = .bool true ∧ J (pre ++ p.each) h' n') ∨ (r = .bool false ∧ ∃ pre' q rest, whole = pre' ++ q :: rest ∧ X (pre' ++ [q]) h' n') := by
 induction p using Fn.ind with
 | h p ih' =>
  intro pre post h n hw hJ
  have hp8 := hp.self.protos
  obtain ⟨a1, a2⟩ := hR.apJ _ _ _ hJ
  have d1 := a1.del
  have d2 := a2.del
  have hround := hR.round pre p (Fn.eachs p.protos ++ post) h (n + 1) (by rw [hw, Fn.each_eq]; simp) (hR.up _ _ _ _ (Nat.le_succ n) hJ)
  refine CallS.enterK proto_walk_ok (Nat.le_of_ble_eq_true rfl) fun Q hQ => Run.go 100 ?_
  obtain ⟨h1, h2⟩ := fn_row11 p
  have heq := p.row_eq
  have h8 : p.row[8]? = some (.isl (p.protos.map Fn.row)) := by rw [heq]; rfl
  have hpl : (p.protos.map Fn.row).length = p.protos.length := List.length_map ..
  have hrz := eq_true (rowsz_of Fn.row 11 Fn.row_len p.protos)
  have hrow : ∀ (k : Nat) q, p.protos[k]? = some q → (p.protos.map Fn.row)[k]? = some q.row := fun k q hk => by rw [List.getElem?_map, hk]; rfl
  clear heq
  generalize p.row = pr at *
  generalize p.protos.map Fn.row = es at *
  simp -implicitDefEqProofs only [go_sem, initSl, h1, h2, d1]
  refine RndS.use (rest := [_]) hround rfl (fun e he e' he' => by rw [List.mem_singleton.1 he]; exact a1 e' he') ?_
  rintro r h' n' hn (⟨rfl, hJ'⟩ | ⟨rfl, hX⟩)
  ·simp -implicitDefEqProofs only [go_sem, h8]
   refine Run.roundsK (fun (x : Nat × Heap × Nat) => ⟨[(14, .int .i64 x.1), (13, .int .i64 p.protos.length), (12, .isl es), (2, .ptr (59 * 10000 + 2) n 0 0), (1, .yld nm st)], ((59 * 10000 + 2), n, .rows 11 [pr]) :: x.2.1, x.2.2⟩)
    (fun x => x.1 ≤ p.protos.length ∧ J (pre ++ [p] ++ Fn.eachs (p.protos.take x.1)) x.2.1 x.2.2) (fun x => p.protos.length - x.1) (0, h', n') ?_ ⟨Nat.zero_le _, by simpa [Fn.eachs] using hJ'⟩ ?_
   ·refine Weak.wk ⟨slotsW_iff.1 (by simp -implicitDefEqProofs only [go_sem, hpl]), fun e he => ?_, Nat.le_refl _⟩
    simpa using he
   rintro ⟨k, h3, n3⟩ ⟨hk, hJ3⟩ ih
   simp only at hk hJ3 ih ⊢
   obtain ⟨b1, b2⟩ := hR.apJ _ _ _ hJ3
   have c1 := b1.del
   have c2 := b2.del
   refine Run.unf proto_walk_l0_eq (Run.go 100 ?_)
   by_cases hlt : k < p.protos.length
   ·have q0 : ((k : Int) < (p.protos.length : Int)) = True := eq_true (by omega)
    have q1 : ((0 : Int) ≤ (k : Int)) = True := eq_true (by omega)
    obtain ⟨q, hq⟩ : ∃ q, p.protos[k]? = some q := ⟨p.protos[k], by simp [hlt]⟩
    have hqm : q ∈ p.protos := List.mem_of_getElem? hq
    have hqr := hrow k q hq
    have hql := q.row_len
    have htq : q.row.take 11 = q.row := List.take_of_length_le (by omega)
    have hzk : ((k : Int) + 1) = ((k + 1 : Nat) : Int) := by omega
    have hspl : p.protos = p.protos.take k ++ q :: p.protos.drop (k + 1) := by
     have := List.getElem_of_getElem? hq
     obtain ⟨hk', e⟩ := this
     rw [← e, List.getElem_cons_drop]; simp
    have hw3 : whole = (pre ++ [p] ++ Fn.eachs (p.protos.take k)) ++ q.each ++ (Fn.eachs (p.protos.drop (k + 1)) ++ post) := by
     have e1 : Fn.eachs p.protos = Fn.eachs (p.protos.take k) ++ (q.each ++ Fn.eachs (p.protos.drop (k + 1))) := by
      conv => lhs; rw [hspl]
      rw [Fn.eachs_append, Fn.eachs]
     rw [hw, Fn.each_eq p, e1]; simp
    have hcall := ih' q hqm (hp.child hqm) _ _ h3 (n3 + 1) hw3 (hR.up _ _ _ _ (Nat.le_succ n3) hJ3)
    have htk : Fn.eachs (p.protos.take (k + 1)) = Fn.eachs (p.protos.take k) ++ q.each := by
     rw [List.take_add_one, hq]; simp [Fn.eachs_append, Fn.eachs]
    generalize q.row = qr at *
    simp -implicitDefEqProofs only [go_sem, q0, q1, hpl, hrz, hqr, Option.some.injEq, forall_eq', hql, htq, List.append_nil, c2]
    refine ⟨hlt, ?_⟩
    refine CallS.use (rest := [_, _]) hcall rfl (fun e he e' he' => ?_) ?_
    ·simp only [List.mem_cons, List.not_mem_nil, or_false] at he
     rcases he with rfl | rfl
     ·exact b2 e' he'
     ·exact b1 e' he'
    rintro r h4 n4 hn4 (⟨rfl, hJ4⟩ | ⟨rfl, pre', q', rest, hwx, hX⟩)
    ·simp -implicitDefEqProofs only [go_sem]
     refine ⟨by omega, ?_⟩
     refine ih _ (k + 1, h4, n4) ⟨by simp only; omega, by simp only [htk]; rw [← List.append_assoc]; exact hJ4⟩ (by simp only; omega) (Weak.wk ⟨slotsW_iff.1 (by simp -implicitDefEqProofs only [go_sem, hzk]), fun e he => List.mem_cons_of_mem _ he, Nat.le_refl _⟩)
    ·simp -implicitDefEqProofs only [go_sem]
     subst hQ
     refine .to (Or.inr ⟨rfl, pre', q', rest, hwx, hX⟩) (Weak.wk ⟨fun p hp => ?_, fun e he => List.mem_cons_of_mem _ (List.mem_cons_of_mem _ he), Nat.le_refl _⟩)
     rw [List.mem_singleton.1 hp]; rfl
   ·have e : k = p.protos.length := by omega
    subst e
    simp -implicitDefEqProofs only [go_sem, Int.lt_irrefl]
    subst hQ
    rw [List.take_length] at hJ3
    refine .to (Or.inl ⟨rfl, by rw [Fn.each_eq]; simpa using hJ3⟩) (Weak.wk ⟨fun p hp => ?_, fun e he => List.mem_cons_of_mem _ he, Nat.le_refl _⟩)
    rw [List.mem_singleton.1 hp]; rfl
  ·simp -implicitDefEqProofs only [go_sem]
   subst hQ
   refine .to (Or.inr ⟨rfl, pre, p, Fn.eachs p.protos ++ post, by rw [hw, Fn.each_eq]; simp, hX⟩) (Weak.wk ⟨fun p hp => ?_, fun e he => List.mem_cons_of_mem _ he, Nat.le_refl _⟩)
   rw [List.mem_singleton.1 hp]; rfl
theorem each1_call {nm st b sb : Nat} {J X : List Fn → Heap → Nat → Prop} (p : Fn) (hp : p.bd) (hR : Rnds nm st p.each J X) (h : Heap) (n : Nat) (hg : Heap.get h b sb = some (.rows 11 [p.row])) (hJ : J [] h n) :
  CallS Tryz.prog 58 [.yld nm st, .ptr b sb 0 0] h n fun r h' n' => J p.each h' n' ∨ ∃ pre' q rest, p.each = pre' ++ q :: rest ∧ X (pre' ++ [q]) h' n' := by
 obtain ⟨h1, h2⟩ := fn_row11 p
 have hc := copied_pure p hp
 have hs := Fn.row_sub lost p
 have hw := walkCall hR p hp [] [] h n (by simp) hJ
 generalize p.row = pr at *
 refine CallS.enterK proto_Each_1_ok (Nat.le_of_ble_eq_true rfl) fun Q hQ => Run.go 100 ?_
 simp -implicitDefEqProofs only [go_sem, initSl, hg, h1, h2]
 refine CallS.pureF hc (by simp -implicitDefEqProofs only [go_sem, hs]) ?_
 simp -implicitDefEqProofs only [go_sem]
 refine hw.mono ?_
 rintro r h' n' (⟨rfl, hJ'⟩ | ⟨rfl, pre', q', rest, hwx, hX⟩)
 ·simp -implicitDefEqProofs only [go_sem]
  subst hQ
  exact .is (.inl (by simpa using hJ'))
 ·simp -implicitDefEqProofs only [go_sem]
  subst hQ
  exact .is (.inr ⟨pre', q', rest, hwx, hX⟩)
def parts (q : Fn) : Nat := q.code.length + q.lines.length + q.consts.length + q.ups.length + q.vars.length
structure SmallP (p : Fn) : Prop where
 count : p.each.length ≤ 40
 parts : ∀ q ∈ p.each, parts q ≤ 400 ∧ q.protos.length ≤ 40
theorem SmallP.bd {p : Fn} (h : SmallP p) : p.bd := fun q hq => by
 have h1 := (h.parts q hq).1
 have h2 := (h.parts q hq).2
 unfold Go.Proofs.YtfkfphpnijkdlaaGreatDoor.parts at h1
 exact ⟨by omega, by omega, by omega, by omega, by omega, by omega⟩
def firstNZ : List Int → Int
 | [] => 0
 | x :: r => if x = 0 then firstNZ r else x
theorem firstNZ_zero : ∀ {l : List Int}, (∀ x ∈ l, x = 0) → firstNZ l = 0
 | [], _ => rfl
 | x :: r, h => by rw [firstNZ, if_pos (h x List.mem_cons_self)]; exact firstNZ_zero fun y hy => h y (List.mem_cons_of_mem _ hy)
theorem firstNZ_at : ∀ {l : List Int} {x : Int} {r : List Int}, (∀ y ∈ l, y = 0) → x ≠ 0 → firstNZ (l ++ x :: r) = x
 | [], x, r, _, hx => by simp [firstNZ, hx]
 | y :: l, x, r, h, hx => by rw [List.cons_append, firstNZ, if_pos (h y List.mem_cons_self)]; exact firstNZ_at (fun z hz => h z (List.mem_cons_of_mem _ hz)) hx
def chkAll (d : Nat) (l : List Int) : Int := if 64 < d then 3 else firstNZ l
theorem check_of (p : Fn) (hp : p.bd) (d : Nat) (hd : Pure Tryz.prog 35 [.agg p.row] (.int .i64 d)) (e : Fn → Int)
  (hs : ∀ q ∈ p.each, Pure Tryz.prog 37 [.agg q.row] (.int .i64 (e q))) : Pure Tryz.prog 24 [.agg p.row] (.int .i64 (chkAll d (p.each.map e))) := by
 obtain ⟨h1, h2⟩ := fn_row11 p
 have hps := Fn.row_sub lost p
 have hec := fun n => each_call p n
 have he1 := fun nm st b sb J X hR h n hg hJ => each1_call (nm := nm) (st := st) (b := b) (sb := sb) (J := J) (X := X) p hp hR h n hg hJ
 generalize hpr : p.row = pr at *
 refine Pure.of 0 (CallS.enter proto_Check_ok (Nat.le_of_ble_eq_true rfl) (Run.go 100 ?_))
 simp -implicitDefEqProofs only [go_sem, initSl, h1, h2]
 refine CallS.pureF hd (by simp -implicitDefEqProofs only [go_sem, hps]) ?_
 by_cases hb : 64 < d
 ·have z0 : ((64 : Int) < (d : Int)) = True := eq_true (by omega)
  have z1 : chkAll d (p.each.map e) = 3 := if_pos hb
  simp -implicitDefEqProofs only [go_sem, z0, z1]
 have z0 : ((64 : Int) < (d : Int)) = False := eq_false (by omega)
 have z1 : chkAll d (p.each.map e) = firstNZ (p.each.map e) := if_neg hb
 rw [z1]
 simp -implicitDefEqProofs only [go_sem, z0, h1, h2]
 refine CallS.at [] [0, 1] (hec 2) rfl rfl ?_
 rintro r h' n' hn ⟨rfl, rfl, rfl⟩
 simp -implicitDefEqProofs only [go_sem]
 refine ⟨by kernel_rfl, ?_⟩
 generalize hSL : [(9, V.fn 58 [V.ptr (36 * 10000 + 1) 2 0 0]), (8, .agg pr), (7, .bool false), (6, .int .i64 d), (5, .agg pr), (2, .ptr (24 * 10000 + 2) 1 0 0), (1, .ptr (24 * 10000 + 1) 0 0 0), (0, .agg pr)] = SL
 refine CallS.pre (xs' := [.yld (24 * 10000 + 9010) 3, .ptr (36 * 10000 + 1) 2 0 0]) (h' := [((24 * 10000 + 9010), 3, .loop 16 SL [10] (LoopIs Tryz.prog 16 proto_Check_g0a proto_Check_g0b) .ready none), ((24 * 10000 + 2), 1, .rows 1 [[.int .i64 0]]), ((36 * 10000 + 1), 2, .rows 11 [pr]), ((24 * 10000 + 1), 0, .rows 11 [pr])]) (n' := 4)
  (.turn id ⟨.refl _, .refl _, trivial⟩ (.at 0 rfl rfl (.refl _) (.at 2 rfl rfl (.refl _) (.at 1 rfl rfl (.refl _) (.at 3 rfl rfl (.refl _) trivial))))) rfl ?_
 refine (he1 (24 * 10000 + 9010) 3 (36 * 10000 + 1) 2 (fun pre h n => (∀ x ∈ pre.map e, x = 0) ∧ h = [((24 * 10000 + 9010), 3, .loop 16 SL [10] (LoopIs Tryz.prog 16 proto_Check_g0a proto_Check_g0b) .ready none), ((24 * 10000 + 2), 1, .rows 1 [[.int .i64 0]]), ((36 * 10000 + 1), 2, .rows 11 [pr]), ((24 * 10000 + 1), 0, .rows 11 [pr])])
  (fun pre h n => ∃ pre' q, pre = pre' ++ [q] ∧ (∀ x ∈ pre'.map e, x = 0) ∧ e q ≠ 0 ∧ h = [((24 * 10000 + 9010), 3, .loop 16 SL [10] (LoopIs Tryz.prog 16 proto_Check_g0a proto_Check_g0b) .done (some .ret)), ((24 * 10000 + 2), 1, .rows 1 [[.int .i64 (e q)]]), ((36 * 10000 + 1), 2, .rows 11 [pr]), ((24 * 10000 + 1), 0, .rows 11 [pr])]) ⟨?_, fun _ _ _ _ _ h => h, ?_, ?_⟩ _ 4 (by simp -implicitDefEqProofs only [go_sem]) ⟨by simp, rfl⟩).mono ?_
 ·rintro pre q rest h n hw ⟨hz, rfl⟩
  have hqm : q ∈ p.each := by rw [hw]; simp
  have hq := hs q hqm
  obtain ⟨g1, g2⟩ := fn_row11 q
  have hqs := Fn.row_sub lost q
  generalize q.row = qr at *
  refine RndS.enterU proto_Check_g0a_eq proto_Check_g0b_eq rfl rfl fun Q hQ => Run.go 100 ?_
  subst hSL
  simp -implicitDefEqProofs only [go_sem, g1, g2]
  refine CallS.pureF hq (by simp -implicitDefEqProofs only [go_sem, hqs]) ?_
  by_cases hq0 : e q = 0
  ·simp -implicitDefEqProofs only [go_sem, hq0]
   subst hQ
   refine .to (n2 := n + 1) (.inl ⟨rfl, ?_, rfl⟩) (.turn id ⟨.refl _, trivial⟩ (.at 0 rfl rfl (.refl _) (.at 2 rfl rfl (.refl _) (.at 3 rfl rfl (.refl _) (.at 4 rfl rfl (.refl _) trivial)))))
   intro x hx
   simp only [List.map_append, List.mem_append, List.map_cons, List.map_nil, List.mem_singleton] at hx
   rcases hx with hx | rfl
   ·exact hz x hx
   ·exact hq0
  ·simp -implicitDefEqProofs only [go_sem, hq0]
   subst hQ
   refine .to (n2 := n + 1) (.inr ⟨rfl, pre, q, rfl, hz, hq0, rfl⟩) (.turn id ⟨.refl _, trivial⟩ (.at 0 rfl rfl (.refl _) (.at 1 rfl rfl (.refl _) (.at 3 rfl rfl (.refl _) (.at 4 rfl rfl (.refl _) trivial)))))
 ·rintro pre h n ⟨_, rfl⟩
  exact ⟨.of rfl, .of rfl⟩
 ·rintro pre h n ⟨_, _, _, _, _, rfl⟩
  exact ⟨.of rfl, .of rfl⟩
 ·rintro r h' n' (⟨hz, rfl⟩ | ⟨pre, q, rest, hw, pre', q', hpq, hz, hq0, rfl⟩)
  ·subst hSL
   have := firstNZ_zero hz
   simp -implicitDefEqProofs only [go_sem, this]
  ·subst hSL
   obtain ⟨rfl, hqq⟩ := List.append_inj' hpq rfl
   obtain rfl : q = q' := by simpa using hqq
   have : firstNZ (p.each.map e) = e q := by rw [hw, List.map_append, List.map_cons]; exact firstNZ_at hz hq0
   simp -implicitDefEqProofs only [go_sem, this]
end Go.Proofs.YtfkfphpnijkdlaaGreatDoor
