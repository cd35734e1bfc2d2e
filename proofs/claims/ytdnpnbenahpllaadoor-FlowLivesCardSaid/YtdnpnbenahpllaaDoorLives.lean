/-
  FlowLives: the walk. No condition.
-/
import Derived.Test.YtdnpnbenahpllaaDoorSolT
import Derived.Test.YtdnpnbenahpllaaDoorRLv2
import Derived.Test.YtdnpnbenahpllaaDoorFlow0
set_option linter.unusedVariables false
set_option linter.unusedSimpArgs false
set_option maxRecDepth 100000
set_option maxHeartbeats 0
namespace Go.Proofs.YtdnpnbenahpllaaDoor
open Go.Abs
attribute [local irreducible] CallS Run
-- EV: Ins.v, Ins.row

theorem few_sub {p : Pro} (h : p.row.map (V.sub lost) = p.row) : (fewP p).row.map (V.sub lost) = (fewP p).row := by
  rw [(fewP p).row_eq]
  rw [p.row_eq] at h
  simp only [List.map_cons, List.map_nil, List.cons.injEq, and_true, true_and, V.sub, subLL_map, V.isl.injEq] at h ⊢
  exact h
theorem few_regs (p : Pro) : (fewP p).regs ≤ 60 := by
  unfold fewP; simp only; split <;> omega

theorem and2 {A1 A2 B1 B2 : Prop} (f1 : B1 → A1) (f2 : B2 → A2) (h : B1 ∧ B2) : A1 ∧ A2 := ⟨f1 h.1, f2 h.2⟩
theorem flowLives_args (n0 : List V) (w0 : Typed Tryd.prog 29 n0) : Pure Tryd.prog 3 [.agg n0] (.bool true) := by
  obtain ⟨p0, rfl, hsub0, hmax⟩ := proto_found w0
  have hB : p0.protos.length ≤ 9223372036854775807 := Nat.le_trans hmax (by decide)
  have hlarge := large_pure p0 hB
  have hfew := few_pure p0 hsub0
  obtain ⟨f1, f2⟩ := pro_row11 p0
  refine Pure.of 0 (CallS.enter scriptinglaw35_FlowLives_ok (Nat.le_of_ble_eq_true rfl) (Run.go 100 ?_))
  cases hL : largeB p0 with
  | true =>
    rw [hL] at hlarge
    generalize p0.row = pr at *
    simp -implicitDefEqProofs only [go_sem, Ins.v, Ins.row, initSl, f1, f2]
    refine CallS.pureF hlarge (by simp -implicitDefEqProofs only [go_sem, Ins.v, Ins.row, hsub0]) ?_
    simp -implicitDefEqProofs only [go_sem, Ins.v, Ins.row]
    refine CallS.pureF awake_pure (by simp -implicitDefEqProofs only [go_sem, Ins.v, Ins.row]) ?_
    simp -implicitDefEqProofs only [go_sem, Ins.v, Ins.row]
  | false =>
  rw [hL] at hlarge
  have hS := Small.of hL
  have hsub := few_sub hsub0
  have hc : (fewP p0).code.length ≤ 80 := hS.code
  have hup : ∀ q ∈ (fewP p0).protos, q.ups.length ≤ 60 := hS.ups
  have hreg := few_regs p0
  obtain ⟨h1, h2⟩ := pro_row11 (fewP p0)
  generalize hp : fewP p0 = p at *
  have hrlive := rlive_pure p (by omega) hsub (fun q hq => by have := hup q hq; omega)
  have hlive := live_pure p (by omega) hsub (fun q hq => by have := hup q hq; omega)
  unfold liveV at hlive hrlive
  have lL : ((List.range p.code.length).map fun a => [V.isl ((lvL p a).map zrw)]).length = p.code.length := by simp
  have zL : rowsz ((List.range p.code.length).map fun a => [V.isl ((lvL p a).map zrw)]) 1 = True := eq_true fun r hr => by obtain ⟨y, _, rfl⟩ := List.mem_map.1 hr; rfl
  have rL : ∀ a, a < p.code.length → ((List.range p.code.length).map fun a => [V.isl ((lvL p a).map zrw)])[a]? = some [.isl ((lvL p a).map zrw)] := fun a ha => by simp [ha]
  have sL : (((List.range p.code.length).map fun a => [V.isl ((lvL p a).map zrw)]).map fun r => r.map (V.sub lost)) = (List.range p.code.length).map fun a => [V.isl ((lvL p a).map zrw)] := by
    rw [List.map_map]
    refine List.map_congr_left fun a _ => ?_
    simp only [Function.comp, List.map_cons, List.map_nil, V.sub, subLL_map, subZ']
  generalize ((List.range p.code.length).map fun a => [V.isl ((lvL p a).map zrw)]) = LV at *
  generalize hpr : p.row = pr at *
  generalize p0.row = pr0 at *
  simp -implicitDefEqProofs only [go_sem, Ins.v, Ins.row, initSl, f1, f2]
  refine CallS.pureF hlarge (by simp -implicitDefEqProofs only [go_sem, Ins.v, Ins.row, hsub0]) ?_
  simp -implicitDefEqProofs only [go_sem, Ins.v, Ins.row, f1, f2]
  refine CallS.pureF hfew (by simp -implicitDefEqProofs only [go_sem, Ins.v, Ins.row, hsub0]) ?_
  have h3 : pr0.drop 11 = [] := List.drop_eq_nil_of_le (by omega)
  simp -implicitDefEqProofs only [go_sem, Ins.v, Ins.row, f1, f2, h1, h2, h3, List.append_nil, List.length_nil, Nat.add_zero]
  have c1 : ∀ {h : Heap} {n : Nat} {k : Res}, k (.isl LV) h n → CallS Tryd.prog 9 [.agg pr] h n k := fun hk => CallS.pureF hlive (by simp -implicitDefEqProofs only [go_sem, Ins.v, Ins.row, hsub]) hk
  have c2 : ∀ {h : Heap} {n : Nat} {k : Res}, k (.isl LV) h n → CallS Tryd.prog 10 [.agg pr] h n k := fun hk => CallS.pureF hrlive (by simp -implicitDefEqProofs only [go_sem, Ins.v, Ins.row, hsub]) hk
  refine and2 c1 c1 ?_
  simp -implicitDefEqProofs only [go_sem, Ins.v, Ins.row, h1, h2]
  refine c2 ?_
  simp -implicitDefEqProofs only [go_sem, Ins.v, Ins.row, lL]
  refine Run.keep [22, 21, 4, 3] ?_
  refine Run.rounds (fun (a : Nat) => ⟨[(22, .int .i64 a), (21, .int .i64 p.code.length), (4, .isl LV), (3, .isl LV)], [], 1⟩) (fun a => a ≤ p.code.length) (fun a => p.code.length - a) 0 (by simp -implicitDefEqProofs only [go_sem, Ins.v, Ins.row]) (Nat.zero_le _) ?_
  rintro a ha ih
  refine Run.unf scriptinglaw35_FlowLives_l0_eq (Run.go 100 ?_)
  by_cases hlt : a < p.code.length
  · have q0 : ((a : Int) < (p.code.length : Int)) = True := eq_true (by omega)
    have q1 : ((0 : Int) ≤ (a : Int)) = True := eq_true (by omega)
    have hza : ((a + 1 : Nat) : Int) = (a : Int) + 1 := by omega
    have hrl := rL a hlt
    have hin := ints_refl (lvL p a) (by have := lvL_len (p := p) (a := a); omega)
    have s1 := subZ' (lvL p a)
    simp -implicitDefEqProofs only [go_sem, Ins.v, Ins.row, q0, q1, hlt, lL, zL, hrl, Option.some.injEq, forall_eq']
    refine CallS.pureF hin (by simp -implicitDefEqProofs only [go_sem, Ins.v, Ins.row, s1]) ?_
    simp -implicitDefEqProofs only [go_sem, Ins.v, Ins.row]
    exact ⟨by omega, ih _ (a + 1) (by omega) (by omega) (by simp -implicitDefEqProofs only [go_sem, Ins.v, Ins.row, hza])⟩
  have e : a = p.code.length := by omega
  subst e
  simp -implicitDefEqProofs only [go_sem, Ins.v, Ins.row, Int.lt_irrefl]
  refine CallS.pureF awake_pure (by simp -implicitDefEqProofs only [go_sem, Ins.v, Ins.row]) ?_
  simp -implicitDefEqProofs only [go_sem, Ins.v, Ins.row]
end Go.Proofs.YtdnpnbenahpllaaDoor
