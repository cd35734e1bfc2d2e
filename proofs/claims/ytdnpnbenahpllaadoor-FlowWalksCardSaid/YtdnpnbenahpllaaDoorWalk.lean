/-
  FlowWalks: the walk. No condition.
-/
import Derived.Test.YtdnpnbenahpllaaDoorWalkT
import Derived.Test.YtdnpnbenahpllaaDoorSol
import Derived.Test.YtdnpnbenahpllaaDoorReach
set_option linter.unusedVariables false
set_option linter.unusedSimpArgs false
set_option maxRecDepth 100000
set_option maxHeartbeats 0
namespace Go.Proofs.YtdnpnbenahpllaaDoor
open Go.Abs
attribute [local irreducible] CallS Run
-- EV: Ins.v, Ins.row

theorem boolR_szW (N : Nat) (f : Nat → Bool) : rowsz (boolR N f) 1 = True := eq_true fun r hr => by obtain ⟨y, _, rfl⟩ := List.mem_map.1 hr; rfl
theorem boolR_put {N x : Nat} {f : Nat → Bool} {b : Bool} (h : x < N) : (boolR N f).set x [.bool b] = boolR N (fun y => if y = x then b else f y) := by
  refine List.ext_getElem? fun j => ?_
  rw [List.getElem?_set, boolR_len]
  by_cases hj : j < N
  · rw [boolR_at hj, boolR_at hj]
    by_cases d : x = j
    · subst d; simp [hj]
    · rw [if_neg d, if_neg (Ne.symm d)]
  · rw [List.getElem?_eq_none (by rw [boolR_len]; omega), List.getElem?_eq_none (by rw [boolR_len]; omega)]
    split <;> first | omega | rfl

theorem and6 {A1 A2 A3 A4 A5 A6 B1 B2 B3 B4 B5 B6 : Prop} (f1 : B1 → A1) (f2 : B2 → A2) (f3 : B3 → A3) (f4 : B4 → A4) (f5 : B5 → A5) (f6 : B6 → A6) (h : B1 ∧ B2 ∧ B3 ∧ B4 ∧ B5 ∧ B6) : A1 ∧ A2 ∧ A3 ∧ A4 ∧ A5 ∧ A6 :=
  ⟨f1 h.1, f2 h.2.1, f3 h.2.2.1, f4 h.2.2.2.1, f5 h.2.2.2.2.1, f6 h.2.2.2.2.2⟩

theorem flowWalks_args (n0 : List V) (w0 : Typed Tryd.prog 29 n0) (cs : List Int) (hcl : cs.length ≤ reachBytes) (hcs : ∀ z ∈ cs, (Lit.int .u8 z).wf = true) : Pure Tryd.prog 4 [.agg n0, .isl (cs.map fun z => [.int .u8 z])] (.bool true) := by
  obtain ⟨p0, rfl, hsub0, hmax⟩ := proto_found w0
  have hB : p0.protos.length ≤ 9223372036854775807 := Nat.le_trans hmax (by decide)
  have hlarge := large_pure p0 hB
  have hfew := few_pure p0 hsub0
  obtain ⟨f1, f2⟩ := pro_row11 p0
  have e5 : p0.row[5]? = some (.isl (p0.code.map Ins.row)) := by rw [p0.row_eq]; rfl
  have ek5 : (p0.code.map Ins.row).length = p0.code.length := List.length_map ..
  have lC : (cs.map fun z => [V.int .u8 z]).length = cs.length := List.length_map ..
  have zC : rowsz (cs.map fun z => [V.int .u8 z]) 1 = True := eq_true fun r hr => by obtain ⟨y, _, rfl⟩ := List.mem_map.1 hr; rfl
  have rC : ∀ (k : Nat) z, cs[k]? = some z → (cs.map fun z => [V.int .u8 z])[k]? = some [.int .u8 z] := fun k z h => by rw [List.getElem?_map, h]; rfl
  generalize (cs.map fun z => [V.int .u8 z]) = CS at *
  refine Pure.of 0 (CallS.enter scriptinglaw35_FlowWalks_ok (Nat.le_of_ble_eq_true rfl) (Run.go 100 ?_))
  cases hL : largeB p0 with
  | true =>
    rw [hL] at hlarge
    generalize p0.row = pr at *
    simp -implicitDefEqProofs only [go_sem, Ins.v, Ins.row, initSl, f1, f2]
    refine CallS.pureF hlarge (by simp -implicitDefEqProofs only [go_sem, Ins.v, Ins.row, hsub0]) ?_
    simp -implicitDefEqProofs only [go_sem, Ins.v, Ins.row]
    refine CallS.pureF awake_pure (by simp -implicitDefEqProofs only [go_sem, Ins.v, Ins.row]) ?_
    simp -implicitDefEqProofs only [go_sem, Ins.v, Ins.row]
  | false =>
  rw [hL] at hlarge
  by_cases hn0 : p0.code.length = 0
  · have hn0' : ((p0.code.length : Int) = 0) = True := eq_true (by omega)
    generalize p0.code.map Ins.row = rc0 at *
    generalize p0.row = pr at *
    simp -implicitDefEqProofs only [go_sem, Ins.v, Ins.row, initSl, f1, f2]
    refine CallS.pureF hlarge (by simp -implicitDefEqProofs only [go_sem, Ins.v, Ins.row, hsub0]) ?_
    simp -implicitDefEqProofs only [go_sem, Ins.v, Ins.row, f1, f2, e5, ek5, hn0']
    refine CallS.pureF awake_pure (by simp -implicitDefEqProofs only [go_sem, Ins.v, Ins.row]) ?_
    simp -implicitDefEqProofs only [go_sem, Ins.v, Ins.row]
  have hn0' : ((p0.code.length : Int) = 0) = False := eq_false (by omega)
  have hS := Small.of hL
  have hsub := few_sub hsub0
  have hc : (fewP p0).code.length ≤ 80 := hS.code
  have hpos : 0 < (fewP p0).code.length := Nat.pos_of_ne_zero hn0
  have hup : ∀ q ∈ (fewP p0).protos, q.ups.length ≤ 60 := hS.ups
  have hreg := few_regs p0
  obtain ⟨h1, h2⟩ := pro_row11 (fewP p0)
  generalize hp : fewP p0 = p at *
  have hlive := live_pure p (by omega) hsub (fun q hq => by have := hup q hq; omega)
  have hnx : ∀ a : Int, Pure Tryd.prog 16 [.agg p.row, .int .i64 a] (.isl ((nextL p.code a).map zrw)) := fun a => by rw [p.row_eq]; exact next_pure p.code a (by omega) _ _ _ _ _ _ _ _ _ _
  have hsubx := hsub
  rw [p.row_eq] at hsubx
  have hre : Pure Tryd.prog 12 [.agg p.row] (.isl ((reachL p.code).map brw)) := by
    rw [p.row_eq]
    refine reach_pure p.code (by omega) _ _ _ _ _ _ _ _ _ _ ?_
    simp only [List.map_cons, List.map_nil, List.cons.injEq, and_true, true_and] at hsubx ⊢
    obtain ⟨a0, a1, a2, a3, a4, a5, a6, a7, a8, a9, a10⟩ := hsubx
    exact ⟨a0, a1, a2, a3, a4, a6, a7, a8, a9, a10⟩
  have hlo : Pure Tryd.prog 13 [.agg p.row] (.isl ((normZ (backL p.code)).map zrw)) := by
    rw [p.row_eq]
    exact loops_pure p.code (by omega) _ _ _ _ _ _ _ _ _ _
  have hwr := fun a (ha : a < p.code.length) x z => written_pure p hsub (by omega) a ha x z
  have g4 : p.row[4]? = some (.int .i64 p.regs) := by rw [p.row_eq]; rfl
  have g5 : p.row[5]? = some (.isl (p.code.map Ins.row)) := by rw [p.row_eq]; rfl
  have k5 : (p.code.map Ins.row).length = p.code.length := List.length_map ..
  have z5 := rowszP Ins.row 5 (fun _ => rfl) p.code
  have r5 : ∀ (k : Nat) x, p.code[k]? = some x → (p.code.map Ins.row)[k]? = some (Ins.row x) := fun k x hk => by rw [List.getElem?_map, hk]; rfl
  unfold liveV at hlive
  have lL : ((List.range p.code.length).map fun a => [V.isl ((lvL p a).map zrw)]).length = p.code.length := by simp
  have zL : rowsz ((List.range p.code.length).map fun a => [V.isl ((lvL p a).map zrw)]) 1 = True := eq_true fun r hr => by obtain ⟨y, _, rfl⟩ := List.mem_map.1 hr; rfl
  have rL : ((List.range p.code.length).map fun a => [V.isl ((lvL p a).map zrw)])[0]? = some [.isl ((lvL p 0).map zrw)] := by simp [hpos]
  have sL : (((List.range p.code.length).map fun a => [V.isl ((lvL p a).map zrw)]).map fun r => r.map (V.sub lost)) = (List.range p.code.length).map fun a => [V.isl ((lvL p a).map zrw)] := by
    rw [List.map_map]
    refine List.map_congr_left fun a _ => ?_
    simp only [Function.comp, List.map_cons, List.map_nil, V.sub, subLL_map, subZ']
  have lR : ((reachL p.code).map brw).length = p.code.length := by simp [reachL_len]
  have zR : rowsz ((reachL p.code).map brw) 1 = True := eq_true fun r hr => by obtain ⟨y, _, rfl⟩ := List.mem_map.1 hr; rfl
  have rR : ∀ a, a < p.code.length → ((reachL p.code).map brw)[a]? = some [.bool (reachB p.code a)] := fun a ha => brw_at (reachL_at ha)
  have hlh := fun z => has_pure (normZ (backL p.code)) z (by
    have h1 : (normZ (backL p.code)).length ≤ (backL p.code).length := Nat.le_trans (Lib.compact_length_le _) (by simp [sortZ])
    have h2 := backT_len p.code p.code.length
    rw [backT_all] at h2; omega)
  have hl0 := fun z => has_pure (lvL p 0) z (by have := lvL_len (p := p) (a := 0); omega)
  have sB := subZ' (normZ (backL p.code))
  have s0 := subZ' (lvL p 0)
  generalize ((List.range p.code.length).map fun a => [V.isl ((lvL p a).map zrw)]) = LV at *
  generalize (reachL p.code).map brw = RV at *
  generalize (normZ (backL p.code)).map zrw = BV at *
  generalize (lvL p 0).map zrw = L0 at *
  generalize p.code.map Ins.row = rcode at *
  generalize hpr : p.row = pr at *
  generalize p0.code.map Ins.row = rc0 at *
  generalize p0.row = pr0 at *
  simp -implicitDefEqProofs only [go_sem, Ins.v, Ins.row, initSl, f1, f2]
  refine CallS.pureF hlarge (by simp -implicitDefEqProofs only [go_sem, Ins.v, Ins.row, hsub0]) ?_
  simp -implicitDefEqProofs only [go_sem, Ins.v, Ins.row, f1, f2, e5, ek5, hn0']
  refine CallS.pureF hfew (by simp -implicitDefEqProofs only [go_sem, Ins.v, Ins.row, hsub0]) ?_
  have h3 : pr0.drop 11 = [] := List.drop_eq_nil_of_le (by omega)
  simp -implicitDefEqProofs only [go_sem, Ins.v, Ins.row, f1, f2, h1, h2, h3, List.append_nil, List.length_nil, Nat.add_zero]
  have c1 : ∀ {h : Heap} {n : Nat} {k : Res}, k (.isl RV) h n → CallS Tryd.prog 12 [.agg pr] h n k := fun hk => CallS.pureF hre (by simp -implicitDefEqProofs only [go_sem, Ins.v, Ins.row, hsub]) hk
  have c2 : ∀ {h : Heap} {n : Nat} {k : Res}, k (.isl BV) h n → CallS Tryd.prog 13 [.agg pr] h n k := fun hk => CallS.pureF hlo (by simp -implicitDefEqProofs only [go_sem, Ins.v, Ins.row, hsub]) hk
  have c3 : ∀ {h : Heap} {n : Nat} {k : Res}, k (.isl LV) h n → CallS Tryd.prog 9 [.agg pr] h n k := fun hk => CallS.pureF hlive (by simp -implicitDefEqProofs only [go_sem, Ins.v, Ins.row, hsub]) hk
  refine and6 c1 c1 c1 c1 c1 c1 ?_
  simp -implicitDefEqProofs only [go_sem, Ins.v, Ins.row, h1, h2]
  refine and6 c2 c2 c2 c2 c2 c2 ?_
  simp -implicitDefEqProofs only [go_sem, Ins.v, Ins.row, h1, h2]
  refine c3 ?_
  have hmx : (if (0 : Int) > p.regs then (0 : Int) else p.regs) = ((regN p.regs : Nat) : Int) := by unfold regN; split <;> omega
  have hN60 : regN p.regs ≤ 60 := by unfold regN; omega
  simp -implicitDefEqProofs only [go_sem, Ins.v, Ins.row, h1, h2, g4, g5, k5, lR, lL, hmx]
  refine ⟨by omega, by omega, ?_⟩
  rw [← boolR_none]
  refine Run.keep [10, 9, 8, 7, 6, 5, 2, 1] ?_
  refine Run.rounds (fun (x : Nat × Nat × (Nat → Bool)) => ⟨[(10, .int .i64 x.1), (9, .int .i64 x.2.1), (8, .sl (4 * 10000 + 51) 1 0 (regN p.regs)), (7, .isl LV), (6, .isl BV), (5, .isl RV), (2, .ptr (4 * 10000 + 2) 0 0 0), (1, .isl CS)], [((4 * 10000 + 51), 1, .rows 1 (boolR (regN p.regs) x.2.2)), ((4 * 10000 + 2), 0, .rows 11 [pr])], 2⟩) (fun x => x.1 ≤ cs.length ∧ x.2.1 < p.code.length ∧ Path p.code x.2.1 ∧ ∀ r, r < regN p.regs → liveP p x.2.1 r = true → x.2.2 r = false → liveP p 0 r = true) (fun x => cs.length - x.1) (0, 0, fun _ => false) (by simp -implicitDefEqProofs only [go_sem, Ins.v, Ins.row]) ⟨Nat.zero_le _, hpos, .zero hpos, fun r _ h _ => h⟩ ?_
  rintro ⟨k, a, Df⟩ ⟨hk, ha, hpa, hinv⟩ ih
  simp only at hk ha hpa hinv ih ⊢
  have hzk : ((k + 1 : Nat) : Int) = (k : Int) + 1 := by omega
  refine Run.unf scriptinglaw35_FlowWalks_l0_eq (Run.go 100 ?_)
  by_cases hlk : k < cs.length
  case neg =>
    have v0 : ((k : Int) < (cs.length : Int)) = False := eq_false (by omega)
    simp -implicitDefEqProofs only [go_sem, Ins.v, Ins.row, v0, lC]
    refine CallS.pureF awake_pure (by simp -implicitDefEqProofs only [go_sem, Ins.v, Ins.row]) ?_
    simp -implicitDefEqProofs only [go_sem, Ins.v, Ins.row]
  have v0 : ((k : Int) < (cs.length : Int)) = True := eq_true (by omega)
  have v1 : ((0 : Int) ≤ (k : Int)) = True := eq_true (by omega)
  by_cases hk2 : k < 200
  case neg =>
    have v2 : ((k : Int) < 200) = False := eq_false (by omega)
    simp -implicitDefEqProofs only [go_sem, Ins.v, Ins.row, v0, v2, lC]
    refine CallS.pureF awake_pure (by simp -implicitDefEqProofs only [go_sem, Ins.v, Ins.row]) ?_
    simp -implicitDefEqProofs only [go_sem, Ins.v, Ins.row]
  have v2 : ((k : Int) < 200) = True := eq_true (by omega)
  have q0 : ((a : Int) < (p.code.length : Int)) = True := eq_true (by omega)
  have q1 : ((0 : Int) ≤ (a : Int)) = True := eq_true (by omega)
  have hra := rR a ha
  rw [reachB_iff.2 hpa] at hra
  obtain ⟨i, hi⟩ : ∃ i, p.code[a]? = some i := ⟨p.code[a], by simp [ha]⟩
  have hir := r5 a i hi
  have hrd := reads_pure i
  have w2 := reads_in i
  have l2 := asc_len (asc_reads i) (fun x hx => (w2.1 x hx).1) (fun x hx => (w2.1 x hx).2)
  have hhr := fun z => has_pure (reads i).1 z (by omega)
  have s2 := subZ' (reads i).1
  simp only [Ins.v, Ins.row] at hrd hir
  have huse := fun (r : Nat) (hr : r < regN p.regs) h => live_use (p := p) (a := a) hi hr h
  have hstep := fun (x : Int) (r : Nat) (hr : r < regN p.regs) h1 h2 h3 => live_step (p := p) (a := a) (r := r) (x := x) hr h1 h2 h3
  have hbl := boolR_len (regN p.regs) Df
  have hbz := boolR_szW (regN p.regs) Df
  have hba := fun r (hr : r < regN p.regs) => boolR_at (f := Df) hr
  generalize hff : (reads i).2 = ff at *
  generalize hrr : (reads i).1.map zrw = Rs at *
  simp -implicitDefEqProofs only [go_sem, Ins.v, Ins.row, v0, v1, v2, lC, q0, q1, ha, lR, zR, hra, h1, h2, g5, k5, z5, hir, Option.some.injEq, forall_eq']
  refine CallS.pureF hrd (by simp -implicitDefEqProofs only [go_sem, Ins.v, Ins.row]) ?_
  simp -implicitDefEqProofs only [go_sem, Ins.v, Ins.row]
  refine Run.keep [78, 77, 12, 11, 10, 9, 8, 7, 6, 5, 2, 1] ?_
  refine Run.rounds (fun (r : Nat) => ⟨[(78, .int .i64 r), (77, .int .i64 (regN p.regs)), (12, .int .i64 ff), (11, .isl Rs), (10, .int .i64 k), (9, .int .i64 a), (8, .sl (4 * 10000 + 51) 1 0 (regN p.regs)), (7, .isl LV), (6, .isl BV), (5, .isl RV), (2, .ptr (4 * 10000 + 2) 0 0 0), (1, .isl CS)], [((4 * 10000 + 51), 1, .rows 1 (boolR (regN p.regs) Df)), ((4 * 10000 + 2), 0, .rows 11 [pr])], 2⟩) (fun r => r ≤ regN p.regs) (fun r => regN p.regs - r) 0 (by simp -implicitDefEqProofs only [go_sem, Ins.v, Ins.row]) (Nat.zero_le _) ?_
  rintro r hr ih2
  have hzr : ((r + 1 : Nat) : Int) = (r : Int) + 1 := by omega
  refine Run.unf scriptinglaw35_FlowWalks_l1_eq (Run.go 100 ?_)
  by_cases hrN : r < regN p.regs
  · have w0 : ((r : Int) < (regN p.regs : Int)) = True := eq_true (by omega)
    have w1 : ((0 : Int) ≤ (r : Int)) = True := eq_true (by omega)
    have w3 : (r < regN p.regs) = True := eq_true hrN
    have hba := hba r hrN
    have hhr := hhr r
    have hlr := hl0 r
    rw [lvL_any hrN] at hlr
    have hu := huse r hrN
    have hv := hinv r hrN
    have fin := fun s => ih2 s (r + 1) (by omega) (by omega)
    clear ih2 huse
    generalize ((reads i).1.any fun y => decide (y = (r : Int))) = b1 at *
    generalize liveP p a r = la at *
    generalize liveP p 0 r = l0 at *
    generalize Df r = dv at *
    have c0 : ((0 : Int) < (p.code.length : Int)) = True := eq_true (by omega)
    have hneed : (b1 || decide (0 ≤ ff ∧ ff ≤ (r : Int))) = true → dv = false → l0 = true := fun h h2 => hv (hu h) h2
    simp -implicitDefEqProofs only [go_sem, Ins.v, Ins.row, w0]
    refine CallS.pureF hhr (by simp -implicitDefEqProofs only [go_sem, Ins.v, Ins.row, s2]) ?_
    have hsplit : b1 = true ∨ (b1 = false ∧ 0 ≤ ff ∧ ff ≤ (r : Int)) ∨ (b1 = false ∧ 0 ≤ ff ∧ ¬ ff ≤ (r : Int)) ∨ (b1 = false ∧ ¬ 0 ≤ ff) := by
      cases b1
      · by_cases d0 : 0 ≤ ff
        · by_cases d1 : ff ≤ (r : Int)
          · exact .inr (.inl ⟨rfl, d0, d1⟩)
          · exact .inr (.inr (.inl ⟨rfl, d0, d1⟩))
        · exact .inr (.inr (.inr ⟨rfl, d0⟩))
      · exact .inl rfl
    rcases hsplit with rfl | ⟨rfl, d0, d1⟩ | ⟨rfl, d0, d1⟩ | ⟨rfl, d0⟩
    · cases dv with
      | true =>
        simp -implicitDefEqProofs only [go_sem, Ins.v, Ins.row, w0, w1, w3, hbl, hbz, hba, Option.some.injEq, forall_eq']
        refine ⟨by omega, fin _ (by simp -implicitDefEqProofs only [go_sem, Ins.v, Ins.row, hzr])⟩
      | false =>
        obtain rfl := hneed rfl rfl
        simp -implicitDefEqProofs only [go_sem, Ins.v, Ins.row, w0, w1, w3, hbl, hbz, hba, lL, zL, rL, hpos, c0, Option.some.injEq, forall_eq']
        refine CallS.pureF hlr (by simp -implicitDefEqProofs only [go_sem, Ins.v, Ins.row, s0]) ?_
        simp -implicitDefEqProofs only [go_sem, Ins.v, Ins.row]
        refine ⟨by omega, fin _ (by simp -implicitDefEqProofs only [go_sem, Ins.v, Ins.row, hzr])⟩
    · cases dv with
      | true =>
        simp -implicitDefEqProofs only [go_sem, Ins.v, Ins.row, d0, d1, ge_iff_le, w0, w1, w3, hbl, hbz, hba, Option.some.injEq, forall_eq']
        refine ⟨by omega, fin _ (by simp -implicitDefEqProofs only [go_sem, Ins.v, Ins.row, hzr])⟩
      | false =>
        obtain rfl := hneed (by rw [decide_eq_true ⟨d0, d1⟩]; rfl) rfl
        simp -implicitDefEqProofs only [go_sem, Ins.v, Ins.row, d0, d1, ge_iff_le, w0, w1, w3, hbl, hbz, hba, lL, zL, rL, hpos, c0, Option.some.injEq, forall_eq']
        refine CallS.pureF hlr (by simp -implicitDefEqProofs only [go_sem, Ins.v, Ins.row, s0]) ?_
        simp -implicitDefEqProofs only [go_sem, Ins.v, Ins.row]
        refine ⟨by omega, fin _ (by simp -implicitDefEqProofs only [go_sem, Ins.v, Ins.row, hzr])⟩
    · simp -implicitDefEqProofs only [go_sem, Ins.v, Ins.row, d0, d1, ge_iff_le]
      refine ⟨by omega, fin _ (by simp -implicitDefEqProofs only [go_sem, Ins.v, Ins.row, hzr])⟩
    · simp -implicitDefEqProofs only [go_sem, Ins.v, Ins.row, d0, ge_iff_le]
      refine ⟨by omega, fin _ (by simp -implicitDefEqProofs only [go_sem, Ins.v, Ins.row, hzr])⟩
  have e0 : r = regN p.regs := by omega
  subst e0
  clear ih2 huse hhr
  simp -implicitDefEqProofs only [go_sem, Ins.v, Ins.row, Int.lt_irrefl, h1, h2]
  refine CallS.pureF (hnx a) (by simp -implicitDefEqProofs only [go_sem, Ins.v, Ins.row, hsub]) ?_
  have hni := fun x (h : x ∈ nextL p.code a) => nextL_in h
  have hnl2 := nextL_len2 p.code a
  have hback := fun x (h : x ∈ nextL p.code a) (hle : x ≤ (a : Int)) => back_of h hle
  have hstp := fun (j : Nat) (h : (j : Int) ∈ nextL p.code a) => Path.step hpa h
  generalize hnle : nextL p.code a = nl at *
  have hnls : ∀ (k : Nat) (x : Int), nl[k]? = some x → (nl.map zrw)[k]? = some [.int .i64 x] := fun k x h => zrw_at h
  have hnll : (nl.map zrw).length = nl.length := List.length_map ..
  have hnlz := rowszZ' nl
  generalize nl.map zrw = nls at *
  by_cases hn1 : nl.length = 0
  · have z0 : ((nl.length : Int) = 0) = True := eq_true (by omega)
    simp -implicitDefEqProofs only [go_sem, Ins.v, Ins.row, hnll, z0]
    refine CallS.pureF awake_pure (by simp -implicitDefEqProofs only [go_sem, Ins.v, Ins.row]) ?_
    simp -implicitDefEqProofs only [go_sem, Ins.v, Ins.row]
  have z0 : ((nl.length : Int) = 0) = False := eq_false (by omega)
  obtain ⟨c, hc'⟩ : ∃ c, cs[k]? = some c := ⟨cs[k], by simp [hlk]⟩
  have hcr := rC k c hc'
  have hcb : 0 ≤ c ∧ c ≤ 255 := by
    have := hcs c (List.mem_of_getElem? hc')
    simp only [Lit.wf, Bool.and_eq_true, decide_eq_true_eq] at this
    have e1 : IntKind.min .u8 = 0 := rfl
    have e2 : IntKind.max .u8 = 255 := by decide
    rw [e1, e2] at this; exact this
  have hwrap : IntKind.wrap .i64 c = c := by
    have e : IntKind.wrap .i64 c = if c % 18446744073709551616 ≥ 9223372036854775808 then c % 18446744073709551616 - 18446744073709551616 else c % 18446744073709551616 := by
      unfold IntKind.wrap; simp [IntKind.signed, IntKind.bits]
    rw [e, if_neg (by omega)]; omega
  have hmod : c.tmod (nl.length : Int) = ((c.toNat % nl.length : Nat) : Int) := by
    rw [show c = ((c.toNat : Nat) : Int) by omega]; rfl
  have hml : c.toNat % nl.length < nl.length := Nat.mod_lt _ (by omega)
  obtain ⟨j, hj⟩ : ∃ j, c.toNat % nl.length = j := ⟨_, rfl⟩
  rw [hj] at hmod hml
  obtain ⟨x, hx⟩ : ∃ x, nl[j]? = some x := ⟨nl[j], by simp [hml]⟩
  have hxr := hnls j x hx
  have hxm := List.mem_of_getElem? hx
  have hxi := hni x hxm
  obtain ⟨y, rfl⟩ : ∃ y : Nat, x = y := ⟨x.toNat, by omega⟩
  have y0 : ((0 : Int) ≤ (j : Int)) = True := eq_true (by omega)
  have y1 : ((j : Int) < (nl.length : Int)) = True := eq_true (by omega)
  by_cases hya : (y : Int) ≤ (a : Int)
  case' pos =>
    have hlhy := hlh y
    rw [any_mem, decide_eq_true (hback y hxm hya)] at hlhy
    simp -implicitDefEqProofs only [go_sem, Ins.v, Ins.row, hnll, z0, v0, v1, hlk, lC, zC, hcr, hwrap, hmod, y0, y1, hml, hnlz, hxr, hya, Option.some.injEq, forall_eq']
    refine CallS.pureF hlhy (by simp -implicitDefEqProofs only [go_sem, Ins.v, Ins.row, sB]) ?_
    simp -implicitDefEqProofs only [go_sem, Ins.v, Ins.row]
  case' neg =>
    simp -implicitDefEqProofs only [go_sem, Ins.v, Ins.row, hnll, z0, v0, v1, hlk, lC, zC, hcr, hwrap, hmod, y0, y1, hml, hnlz, hxr, hya, Option.some.injEq, forall_eq']
  all_goals
    refine Run.keep [137, 136, 15, 10, 9, 8, 7, 6, 5, 2, 1] ?_
    have hlv2 : ∀ r, r < regN p.regs → liveP p y r = true → wrtB p a y r = false → liveP p a r = true := fun r hr h1 h2 => hstep y r hr hxm (by simpa using h1) h2
    refine Run.rounds (fun (r : Nat) => ⟨[(137, .int .i64 r), (136, .int .i64 (regN p.regs)), (15, .int .i64 y), (10, .int .i64 k), (9, .int .i64 a), (8, .sl (4 * 10000 + 51) 1 0 (regN p.regs)), (7, .isl LV), (6, .isl BV), (5, .isl RV), (2, .ptr (4 * 10000 + 2) 0 0 0), (1, .isl CS)], [((4 * 10000 + 51), 1, .rows 1 (boolR (regN p.regs) (fun z => if z < r then (Df z || wrtB p a y z) else Df z))), ((4 * 10000 + 2), 0, .rows 11 [pr])], 2⟩) (fun r => r ≤ regN p.regs) (fun r => regN p.regs - r) 0 (by simp only [Nat.not_lt_zero, if_false]; simp -implicitDefEqProofs only [go_sem, Ins.v, Ins.row]) (Nat.zero_le _) ?_
    rintro r hr ih2
    have hzr : ((r + 1 : Nat) : Int) = (r : Int) + 1 := by omega
    refine Run.unf scriptinglaw35_FlowWalks_l2_eq (Run.go 100 ?_)
    by_cases hrN : r < regN p.regs
    · have w0 : ((r : Int) < (regN p.regs : Int)) = True := eq_true (by omega)
      have w1 : ((0 : Int) ≤ (r : Int)) = True := eq_true (by omega)
      have w3 : (r < regN p.regs) = True := eq_true hrN
      have hwx := hwr a ha y r
      have fin := fun s => ih2 s (r + 1) (by omega) (by omega)
      clear ih2
      have hset : ∀ b : Bool, b = (Df r || wrtB p a y r) → (boolR (regN p.regs) (fun z => if z < r then (Df z || wrtB p a y z) else Df z)).set r [.bool b] = boolR (regN p.regs) (fun z => if z < r + 1 then (Df z || wrtB p a y z) else Df z) := fun b hb => by
        rw [boolR_put hrN]
        congr 1
        funext z
        by_cases e1 : z = r
        · subst e1; rw [if_pos rfl, if_pos (by omega), hb]
        · rw [if_neg e1]
          by_cases e2 : z < r
          · rw [if_pos e2, if_pos (by omega)]
          · rw [if_neg e2, if_neg (by omega)]
      have hbl := boolR_len (regN p.regs) (fun z => if z < r then (Df z || wrtB p a y z) else Df z)
      have hbz := boolR_szW (regN p.regs) (fun z => if z < r then (Df z || wrtB p a y z) else Df z)
      have hba : (boolR (regN p.regs) (fun z => if z < r then (Df z || wrtB p a y z) else Df z))[r]? = some [.bool (Df r)] := by rw [boolR_at hrN, if_neg (Nat.lt_irrefl r)]
      generalize boolR (regN p.regs) (fun z => if z < r then (Df z || wrtB p a y z) else Df z) = BB at *
      generalize boolR (regN p.regs) (fun z => if z < r + 1 then (Df z || wrtB p a y z) else Df z) = BC at *
      generalize wrtB p a y r = wv at *
      cases hdr : Df r with
      | true =>
        rw [hdr] at hba
        have hset := hset true (by rw [hdr]; rfl)
        simp -implicitDefEqProofs only [go_sem, Ins.v, Ins.row, w0, w1, w3, hbl, hbz, hba, hset, Option.some.injEq, forall_eq']
        refine ⟨by omega, fin _ (by simp -implicitDefEqProofs only [go_sem, Ins.v, Ins.row, hzr])⟩
      | false =>
        rw [hdr] at hba
        have hset := hset wv (by rw [hdr]; rfl)
        simp -implicitDefEqProofs only [go_sem, Ins.v, Ins.row, w0, w1, w3, hbl, hbz, hba, h1, h2, Option.some.injEq, forall_eq']
        refine CallS.pureF hwx (by simp -implicitDefEqProofs only [go_sem, Ins.v, Ins.row, hsub]) ?_
        simp -implicitDefEqProofs only [go_sem, Ins.v, Ins.row, w0, w1, w3, hbl, hbz, hba, hset, Option.some.injEq, forall_eq']
        refine ⟨by omega, fin _ (by simp -implicitDefEqProofs only [go_sem, Ins.v, Ins.row, hzr])⟩
    · have e0 : r = regN p.regs := by omega
      subst e0
      have hbe : boolR (regN p.regs) (fun z => if z < regN p.regs then (Df z || wrtB p a y z) else Df z) = boolR (regN p.regs) (fun z => Df z || wrtB p a y z) := by
        unfold boolR
        exact List.map_congr_left fun z hz => by show [V.bool (if z < regN p.regs then (Df z || wrtB p a y z) else Df z)] = [V.bool (Df z || wrtB p a y z)]; rw [if_pos (List.mem_range.1 hz)]
      rw [hbe]
      simp -implicitDefEqProofs only [go_sem, Ins.v, Ins.row, Int.lt_irrefl]
      refine ⟨by omega, ih _ (k + 1, y, fun z => Df z || wrtB p a y z) ⟨by simp only; omega, by simp only; omega, hstp y hxm, fun r hr h1 h2 => ?_⟩ (by simp only; omega) (by simp -implicitDefEqProofs only [go_sem, Ins.v, Ins.row, hzk])⟩
      simp only [Bool.or_eq_false_iff] at h1 h2
      exact hinv r hr (hlv2 r hr h1 h2.2) h2.1
end Go.Proofs.YtdnpnbenahpllaaDoor
