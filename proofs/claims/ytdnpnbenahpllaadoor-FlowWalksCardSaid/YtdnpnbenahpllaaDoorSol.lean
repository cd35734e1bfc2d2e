/-
  FlowSolves: the walk. No condition.
-/
import Derived.Test.YtdnpnbenahpllaaDoorSolT
import Derived.Test.YtdnpnbenahpllaaDoorFlow0
set_option linter.unusedVariables false
set_option linter.unusedSimpArgs false
set_option maxRecDepth 100000
set_option maxHeartbeats 0
namespace Go.Proofs.YtdnpnbenahpllaaDoor
open Go.Abs
attribute [local irreducible] CallS Run
-- EV: Ins.v, Ins.row

theorem few_sub {p : Pro} (h : p.row.map (V.sub lost) = p.row) : (fewP p).row.map (V.sub lost) = (fewP p).row := by
  rw [(fewP p).row_eq]
  rw [p.row_eq] at h
  simp only [List.map_cons, List.map_nil, List.cons.injEq, and_true, true_and, V.sub, subLL_map, V.isl.injEq] at h ⊢
  exact h
theorem few_regs (p : Pro) : (fewP p).regs ≤ 60 := by
  unfold fewP; simp only; split <;> omega

theorem solves_any {α : Type} {l : List α} {f : α → Bool} {k : Nat} {x : α} (h : l[k]? = some x) : (l.take (k + 1)).any f = ((l.take k).any f || f x) := by
  rw [List.take_add_one, h, List.any_append]; simp

theorem flowSolves_args (n0 : List V) (w0 : Typed Tryd.prog 29 n0) : Pure Tryd.prog 5 [.agg n0] (.bool true) := by
  obtain ⟨p0, rfl, hsub0, hmax⟩ := proto_found w0
  have hB : p0.protos.length ≤ 9223372036854775807 := Nat.le_trans hmax (by decide)
  have hlarge := large_pure p0 hB
  have hfew := few_pure p0 hsub0
  obtain ⟨f1, f2⟩ := pro_row11 p0
  refine Pure.of 0 (CallS.enter scriptinglaw35_FlowSolves_ok (Nat.le_of_ble_eq_true rfl) (Run.go 100 ?_))
  cases hL : largeB p0 with
  | true =>
    rw [hL] at hlarge
    generalize p0.row = pr at *
    simp -implicitDefEqProofs only [go_sem, Ins.v, Ins.row, initSl, f1, f2]
    refine CallS.pureF hlarge (by simp -implicitDefEqProofs only [go_sem, Ins.v, Ins.row, hsub0]) ?_
    simp -implicitDefEqProofs only [go_sem, Ins.v, Ins.row]
    refine CallS.pureF awake_pure (by simp -implicitDefEqProofs only [go_sem, Ins.v, Ins.row]) ?_
    simp -implicitDefEqProofs only [go_sem, Ins.v, Ins.row]
  | false =>
  rw [hL] at hlarge
  have hS := Small.of hL
  have hsub := few_sub hsub0
  have hc : (fewP p0).code.length ≤ 80 := hS.code
  have hup : ∀ q ∈ (fewP p0).protos, q.ups.length ≤ 60 := hS.ups
  have hreg := few_regs p0
  obtain ⟨h1, h2⟩ := pro_row11 (fewP p0)
  generalize hp : fewP p0 = p at *
  have hlive := live_pure p (by omega) hsub (fun q hq => by have := hup q hq; omega)
  have hnx : ∀ a : Int, Pure Tryd.prog 16 [.agg p.row, .int .i64 a] (.isl ((nextL p.code a).map zrw)) := fun a => by rw [p.row_eq]; exact next_pure p.code a (by omega) _ _ _ _ _ _ _ _ _ _
  have hcap := fun i z => captured_pure p hsub (fun q hq => by have := hup q hq; omega) i z
  have hwr := fun a (ha : a < p.code.length) x z => written_pure p hsub (by omega) a ha x z
  have g4 : p.row[4]? = some (.int .i64 p.regs) := by rw [p.row_eq]; rfl
  have g5 : p.row[5]? = some (.isl (p.code.map Ins.row)) := by rw [p.row_eq]; rfl
  have k5 : (p.code.map Ins.row).length = p.code.length := List.length_map ..
  have z5 := rowszP Ins.row 5 (fun _ => rfl) p.code
  have r5 : ∀ (k : Nat) x, p.code[k]? = some x → (p.code.map Ins.row)[k]? = some (Ins.row x) := fun k x hk => by rw [List.getElem?_map, hk]; rfl
  unfold liveV at hlive
  have lL : ((List.range p.code.length).map fun a => [V.isl ((lvL p a).map zrw)]).length = p.code.length := by simp
  have zL : rowsz ((List.range p.code.length).map fun a => [V.isl ((lvL p a).map zrw)]) 1 = True := eq_true fun r hr => by obtain ⟨y, _, rfl⟩ := List.mem_map.1 hr; rfl
  have rL : ∀ a, a < p.code.length → ((List.range p.code.length).map fun a => [V.isl ((lvL p a).map zrw)])[a]? = some [.isl ((lvL p a).map zrw)] := fun a ha => by simp [ha]
  have sL : (((List.range p.code.length).map fun a => [V.isl ((lvL p a).map zrw)]).map fun r => r.map (V.sub lost)) = (List.range p.code.length).map fun a => [V.isl ((lvL p a).map zrw)] := by
    rw [List.map_map]
    refine List.map_congr_left fun a _ => ?_
    simp only [Function.comp, List.map_cons, List.map_nil, V.sub, subLL_map, subZ']
  generalize ((List.range p.code.length).map fun a => [V.isl ((lvL p a).map zrw)]) = LV at *
  generalize p.code.map Ins.row = rcode at *
  generalize hpr : p.row = pr at *
  generalize p0.row = pr0 at *
  simp -implicitDefEqProofs only [go_sem, Ins.v, Ins.row, initSl, f1, f2]
  refine CallS.pureF hlarge (by simp -implicitDefEqProofs only [go_sem, Ins.v, Ins.row, hsub0]) ?_
  simp -implicitDefEqProofs only [go_sem, Ins.v, Ins.row, f1, f2]
  refine CallS.pureF hfew (by simp -implicitDefEqProofs only [go_sem, Ins.v, Ins.row, hsub0]) ?_
  have h3 : pr0.drop 11 = [] := List.drop_eq_nil_of_le (by omega)
  simp -implicitDefEqProofs only [go_sem, Ins.v, Ins.row, f1, f2, h1, h2, h3, List.append_nil, List.length_nil, Nat.add_zero]
  refine CallS.pureF hlive (by simp -implicitDefEqProofs only [go_sem, Ins.v, Ins.row, hsub]) ?_
  simp -implicitDefEqProofs only [go_sem, Ins.v, Ins.row, h1, h2, g5, k5, lL]
  refine Run.keep [28, 27, 3, 1] ?_
  refine Run.rounds (fun (a : Nat) => ⟨[(28, .int .i64 a), (27, .int .i64 p.code.length), (3, .isl LV), (1, .ptr (5 * 10000 + 1) 0 0 0)], [((5 * 10000 + 1), 0, .rows 11 [pr])], 1⟩) (fun a => a ≤ p.code.length) (fun a => p.code.length - a) 0 (by simp -implicitDefEqProofs only [go_sem, Ins.v, Ins.row]) (Nat.zero_le _) ?_
  rintro a ha ih
  refine Run.unf scriptinglaw35_FlowSolves_l0_eq (Run.go 100 ?_)
  by_cases hlt : a < p.code.length
  case neg =>
    have e : a = p.code.length := by omega
    subst e
    simp -implicitDefEqProofs only [go_sem, Ins.v, Ins.row, Int.lt_irrefl]
    refine CallS.pureF awake_pure (by simp -implicitDefEqProofs only [go_sem, Ins.v, Ins.row]) ?_
    simp -implicitDefEqProofs only [go_sem, Ins.v, Ins.row]
  have q0 : ((a : Int) < (p.code.length : Int)) = True := eq_true (by omega)
  have q1 : ((0 : Int) ≤ (a : Int)) = True := eq_true (by omega)
  have hza : ((a + 1 : Nat) : Int) = (a : Int) + 1 := by omega
  obtain ⟨i, hi⟩ : ∃ i, p.code[a]? = some i := ⟨p.code[a], by simp [hlt]⟩
  have hir := r5 a i hi
  have hrd := reads_pure i
  have w2 := reads_in i
  have l2 := asc_len (asc_reads i) (fun x hx => (w2.1 x hx).1) (fun x hx => (w2.1 x hx).2)
  have hhr := fun z => has_pure (reads i).1 z (by omega)
  have s2 := subZ' (reads i).1
  have hcapi := fun z => hcap i z
  simp only [Ins.v, Ins.row] at hrd hir hcapi
  have heq0 := fun (r : Nat) (hr : r < regN p.regs) => live_eq (p := p) (a := a) hr
  have heq1 := fun (r : Nat) (hr : r < regN p.regs) => useP_at (p := p) hi hr
  generalize hff : (reads i).2 = ff at *
  generalize hrr : (reads i).1.map zrw = Rs at *
  simp -implicitDefEqProofs only [go_sem, Ins.v, Ins.row, q0, q1, hlt, h1, h2, g5, k5, z5, hir, Option.some.injEq, forall_eq']
  refine CallS.pureF hrd (by simp -implicitDefEqProofs only [go_sem, Ins.v, Ins.row]) ?_
  simp -implicitDefEqProofs only [go_sem, Ins.v, Ins.row, h1, h2]
  refine CallS.pureF (hnx a) (by simp -implicitDefEqProofs only [go_sem, Ins.v, Ins.row, hsub]) ?_
  have hni := fun x (h : x ∈ nextL p.code a) => nextL_in h
  have hnl2 := nextL_len2 p.code a
  generalize hnle : nextL p.code a = nl at *
  have hnls : ∀ (k : Nat) (x : Int), nl[k]? = some x → (nl.map zrw)[k]? = some [.int .i64 x] := fun k x h => zrw_at h
  have hnll : (nl.map zrw).length = nl.length := List.length_map ..
  have hnlz := rowszZ' nl
  generalize nl.map zrw = nls at *
  simp -implicitDefEqProofs only [go_sem, Ins.v, Ins.row]
  refine Run.keep [28, 27, 8, 7, 6, 5, 4, 3, 1] ?_
  refine Run.rounds (fun (r : Nat) => ⟨[(28, .int .i64 a), (27, .int .i64 p.code.length), (8, .int .i64 r), (7, .isl nls), (6, .int .i64 ff), (5, .isl Rs), (4, .int .i64 a), (3, .isl LV), (1, .ptr (5 * 10000 + 1) 0 0 0)], [((5 * 10000 + 1), 0, .rows 11 [pr])], 1⟩) (fun r => r ≤ 60) (fun r => 60 - r) 0 (by simp -implicitDefEqProofs only [go_sem, Ins.v, Ins.row]) (by omega) ?_
  rintro r hr60 ih2
  have hzr : ((r + 1 : Nat) : Int) = (r : Int) + 1 := by omega
  refine Run.unf scriptinglaw35_FlowSolves_l1_eq (Run.go 100 ?_)
  have hlva := rL a hlt
  by_cases hrr2 : (r : Int) < p.regs
  case neg =>
    have q2 : ((r : Int) < p.regs) = False := eq_false hrr2
    have hle := lvL_in (p := p) (a := a)
    have hll := lvL_len (p := p) (a := a)
    have hls : ∀ (k : Nat) (x : Int), (lvL p a)[k]? = some x → ((lvL p a).map zrw)[k]? = some [.int .i64 x] := fun k x h => zrw_at h
    have hlL : ((lvL p a).map zrw).length = (lvL p a).length := List.length_map ..
    have hlz := rowszZ' (lvL p a)
    generalize (lvL p a).map zrw = lvs at *
    simp -implicitDefEqProofs only [go_sem, Ins.v, Ins.row, q2, q0, q1, hlt, h1, h2, g4, lL, zL, hlva, hlL, Option.some.injEq, forall_eq']
    refine Run.keep [116, 115, 28, 27, 4, 3, 1] ?_
    refine Run.rounds (fun (k : Nat) => ⟨[(116, .int .i64 k), (115, .int .i64 (lvL p a).length), (28, .int .i64 a), (27, .int .i64 p.code.length), (4, .int .i64 a), (3, .isl LV), (1, .ptr (5 * 10000 + 1) 0 0 0)], [((5 * 10000 + 1), 0, .rows 11 [pr])], 1⟩) (fun k => k ≤ (lvL p a).length) (fun k => (lvL p a).length - k) 0 (by simp -implicitDefEqProofs only [go_sem, Ins.v, Ins.row]) (Nat.zero_le _) ?_
    rintro k hk ih3
    refine Run.unf scriptinglaw35_FlowSolves_l3_eq (Run.go 100 ?_)
    have hzk : ((k + 1 : Nat) : Int) = (k : Int) + 1 := by omega
    by_cases hlk : k < (lvL p a).length
    · have v0 : ((k : Int) < ((lvL p a).length : Int)) = True := eq_true (by omega)
      have v1 : ((0 : Int) ≤ (k : Int)) = True := eq_true (by omega)
      obtain ⟨x, hx⟩ : ∃ x, (lvL p a)[k]? = some x := ⟨(lvL p a)[k], by simp [hlk]⟩
      have hxr := hls k x hx
      have hxi := hle x (List.mem_of_getElem? hx)
      have x0 : (x < 0) = False := eq_false (by omega)
      have x1 : (p.regs ≤ x) = False := eq_false (by unfold regN at hxi; omega)
      simp -implicitDefEqProofs only [go_sem, Ins.v, Ins.row, v0, v1, q0, q1, hlt, hlk, h1, h2, g4, lL, zL, hlva, hlL, hlz, hxr, x0, x1, ge_iff_le, Option.some.injEq, forall_eq']
      refine ⟨by omega, ?_⟩
      exact ih3 _ (k + 1) (by omega) (by omega) (by simp -implicitDefEqProofs only [go_sem, Ins.v, Ins.row, hzk])
    · have e : k = (lvL p a).length := by omega
      subst e
      simp -implicitDefEqProofs only [go_sem, Ins.v, Ins.row, Int.lt_irrefl]
      refine ⟨by omega, ?_⟩
      exact ih _ (a + 1) (by omega) (by omega) (by simp -implicitDefEqProofs only [go_sem, Ins.v, Ins.row, hza])
  have q2 : ((r : Int) < p.regs) = True := eq_true hrr2
  have q3 : ((0 : Int) ≤ (r : Int)) = True := eq_true (by omega)
  have hrN : r < regN p.regs := by unfold regN; omega
  have heq := heq0 r hrN
  rw [heq1 r hrN] at heq
  have hhl := fun b => has_pure (lvL p b) (r : Int) (by have := lvL_len (p := p) (a := b); omega)
  simp only [lvL_any hrN] at hhl
  have sl := fun b => subZ' (lvL p b)
  have hhr := hhr r
  have hcapr := hcapi r
  generalize ((reads i).1.any fun y => decide (y = (r : Int))) = b1 at *
  generalize captB p i r = b3 at *
  simp -implicitDefEqProofs only [go_sem, Ins.v, Ins.row, q2, h1, h2, g4]
  refine CallS.pureF hhr (by simp -implicitDefEqProofs only [go_sem, Ins.v, Ins.row, s2]) ?_
  have hsplit : b1 = true ∨ (b1 = false ∧ 0 ≤ ff ∧ ff ≤ (r : Int)) ∨ (b1 = false ∧ 0 ≤ ff ∧ ¬ ff ≤ (r : Int)) ∨ (b1 = false ∧ ¬ 0 ≤ ff) := by
    cases b1
    · by_cases d0 : 0 ≤ ff
      · by_cases d1 : ff ≤ (r : Int)
        · exact .inr (.inl ⟨rfl, d0, d1⟩)
        · exact .inr (.inr (.inl ⟨rfl, d0, d1⟩))
      · exact .inr (.inr (.inr ⟨rfl, d0⟩))
    · exact .inl rfl
  rcases hsplit with rfl | ⟨rfl, d0, d1⟩ | ⟨rfl, d0, d1⟩ | ⟨rfl, d0⟩
  case' inl =>
    rw [Bool.true_or] at heq
    obtain ⟨uv, huv⟩ : ∃ uv : Bool, uv = true := ⟨_, rfl⟩
    rw [← huv] at heq
    simp -implicitDefEqProofs only [go_sem, Ins.v, Ins.row]
  case' inr.inl =>
    rw [Bool.false_or, decide_eq_true ⟨d0, d1⟩, Bool.true_or] at heq
    obtain ⟨uv, huv⟩ : ∃ uv : Bool, uv = true := ⟨_, rfl⟩
    rw [← huv] at heq
    simp -implicitDefEqProofs only [go_sem, Ins.v, Ins.row, d0, d1, ge_iff_le]
  case' inr.inr.inl =>
    rw [Bool.false_or, decide_eq_false (fun h => d1 h.2), Bool.false_or] at heq
    obtain ⟨uv, huv⟩ : ∃ uv : Bool, uv = b3 := ⟨_, rfl⟩
    rw [← huv] at heq
    simp -implicitDefEqProofs only [go_sem, Ins.v, Ins.row, d0, d1, ge_iff_le, q0, q1, hlt, h1, h2, g5, k5, z5, hir, Option.some.injEq, forall_eq']
    refine CallS.pureF hcapr (by simp -implicitDefEqProofs only [go_sem, Ins.v, Ins.row, hsub]) ?_
    simp -implicitDefEqProofs only [go_sem, Ins.v, Ins.row]
  case' inr.inr.inr =>
    rw [Bool.false_or, decide_eq_false (fun h => d0 h.1), Bool.false_or] at heq
    obtain ⟨uv, huv⟩ : ∃ uv : Bool, uv = b3 := ⟨_, rfl⟩
    rw [← huv] at heq
    simp -implicitDefEqProofs only [go_sem, Ins.v, Ins.row, d0, ge_iff_le, q0, q1, hlt, h1, h2, g5, k5, z5, hir, Option.some.injEq, forall_eq']
    refine CallS.pureF hcapr (by simp -implicitDefEqProofs only [go_sem, Ins.v, Ins.row, hsub]) ?_
    simp -implicitDefEqProofs only [go_sem, Ins.v, Ins.row]
  all_goals
    refine Run.keep [73, 72, 71, 28, 27, 10, 9, 8, 7, 6, 5, 4, 3, 1] ?_
    refine Run.rounds (fun (k : Nat) => ⟨[(73, .int .i64 k), (72, .int .i64 nl.length), (71, .isl nls), (28, .int .i64 a), (27, .int .i64 p.code.length), (10, .bool ((nl.take k).any fun x => liveP p x.toNat r && !wrtB p a x r)), (9, .bool uv), (8, .int .i64 r), (7, .isl nls), (6, .int .i64 ff), (5, .isl Rs), (4, .int .i64 a), (3, .isl LV), (1, .ptr (5 * 10000 + 1) 0 0 0)], [((5 * 10000 + 1), 0, .rows 11 [pr])], 1⟩) (fun k => k ≤ nl.length) (fun k => nl.length - k) 0 (by simp -implicitDefEqProofs only [go_sem, Ins.v, Ins.row, huv, hnll, List.take_zero, List.any_nil]) (Nat.zero_le _) ?_
    clear huv
    rintro k hk ih3
    refine Run.unf scriptinglaw35_FlowSolves_l2_eq (Run.go 100 ?_)
    have hzk : ((k + 1 : Nat) : Int) = (k : Int) + 1 := by omega
    by_cases hlk : k < nl.length
    · have v0 : ((k : Int) < (nl.length : Int)) = True := eq_true (by omega)
      have v1 : ((0 : Int) ≤ (k : Int)) = True := eq_true (by omega)
      obtain ⟨x, hx⟩ : ∃ x, nl[k]? = some x := ⟨nl[k], by simp [hlk]⟩
      have hxr := hnls k x hx
      have hxi := hni x (List.mem_of_getElem? hx)
      have hnext := solves_any (f := fun x => liveP p x.toNat r && !wrtB p a x r) hx
      obtain ⟨xx, rfl⟩ : ∃ xx : Nat, x = xx := ⟨x.toNat, by omega⟩
      have x0 : ((0 : Int) ≤ (xx : Int)) = True := eq_true (by omega)
      have x1 : ((xx : Int) < (p.code.length : Int)) = True := eq_true hxi.2
      have x2 : (xx < p.code.length) = True := eq_true (by omega)
      have hlx := rL xx (by omega)
      have hhx := hhl xx
      have hsx := sl xx
      have hwx := hwr a hlt xx r
      simp only [Int.toNat_natCast] at hnext
      have fin := fun s => ih3 s (k + 1) (by omega) (by omega)
      clear ih3
      rw [hnext] at fin
      generalize ((nl.take k).any fun x => liveP p x.toNat r && !wrtB p a x r) = av at *
      generalize liveP p xx r = lv at *
      generalize wrtB p a xx r = wv at *
      cases av with
      | true =>
        simp -implicitDefEqProofs only [go_sem, Ins.v, Ins.row, v0, v1, hnll, hnlz, hxr, hlk, Option.some.injEq, forall_eq']
        refine ⟨by omega, fin _ (by simp -implicitDefEqProofs only [go_sem, Ins.v, Ins.row, hzk, Bool.true_or])⟩
      | false =>
        simp -implicitDefEqProofs only [go_sem, Ins.v, Ins.row, v0, v1, hnll, hnlz, hxr, hlk, x0, x1, x2, lL, zL, hlx, Option.some.injEq, forall_eq']
        refine CallS.pureF hhx (by simp -implicitDefEqProofs only [go_sem, Ins.v, Ins.row, hsx]) ?_
        cases lv with
        | false =>
          simp -implicitDefEqProofs only [go_sem, Ins.v, Ins.row]
          refine ⟨by omega, fin _ (by simp -implicitDefEqProofs only [go_sem, Ins.v, Ins.row, hzk, Bool.false_and, Bool.or_false])⟩
        | true =>
          simp -implicitDefEqProofs only [go_sem, Ins.v, Ins.row, v0, v1, hnll, hnlz, hxr, hlk, h1, h2, Option.some.injEq, forall_eq']
          refine CallS.pureF hwx (by simp -implicitDefEqProofs only [go_sem, Ins.v, Ins.row, hsub]) ?_
          simp -implicitDefEqProofs only [go_sem, Ins.v, Ins.row]
          refine ⟨by omega, fin _ (by simp -implicitDefEqProofs only [go_sem, Ins.v, Ins.row, hzk, Bool.true_and, Bool.false_or])⟩
    · have e : k = nl.length := by omega
      subst e
      clear ih3
      rw [List.take_length] at *
      have hha := hhl a
      have hsa := sl a
      rw [heq] at hha
      generalize (nl.any fun x => liveP p x.toNat r && !wrtB p a x r) = av at *
      simp -implicitDefEqProofs only [go_sem, Ins.v, Ins.row, Int.lt_irrefl, hnll, q0, q1, hlt, lL, zL, hlva, Option.some.injEq, forall_eq']
      cases uv <;> cases av <;>
      (simp only [Bool.or_false, Bool.or_true, Bool.false_or, Bool.true_or] at hha
       refine CallS.pureF hha (by simp -implicitDefEqProofs only [go_sem, Ins.v, Ins.row, hsa]) ?_
       simp -implicitDefEqProofs only [go_sem, Ins.v, Ins.row]
       exact ⟨by omega, ih2 _ (r + 1) (by omega) (by omega) (by simp -implicitDefEqProofs only [go_sem, Ins.v, Ins.row, hzr])⟩)
end Go.Proofs.YtdnpnbenahpllaaDoor
