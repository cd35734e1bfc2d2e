/-
 The first violation of a function, and of those within it. No condition.
-/
import Derived.Test.YtfkfphpnijkdlaaGreatDoorVerP4
import Derived.Test.YtfkfphpnijkdlaaGreatDoorFnMb
set_option linter.unusedVariables false
set_option linter.unusedSimpArgs false
set_option maxRecDepth 100000
set_option maxHeartbeats 0
namespace Go.Proofs.YtfkfphpnijkdlaaGreatDoor
open Go.Abs
attribute [local irreducible] CallS Run
-- EV: Ins.v, Ins.row
theorem firstF_at {p : Fn} {k : Nat} (hk : k < p.code.length) (h : violF p (stOf p) k = true) (hno : ∀ j, j < k → violF p (stOf p) j = false) : firstF p = k := by
 have : (List.range p.code.length).find? (violF p (stOf p)) = some k := by
  rw [List.find?_range_eq_some]
  exact ⟨h, List.mem_range.2 hk, fun j hj => by rw [hno j hj]; rfl⟩
 unfold firstF
 rw [this]
theorem states_of (p : Fn) (hs : Sound p) (n : Nat) :
  CallS Tryz.prog 64 [.agg p.row, .isl ((edgesL p.code).map erow)] [] n fun r h' n' => ∃ st L, r = .mp (64 * 10000 + 14) st ∧ h' = [((64 * 10000 + 14), st, .map (mapE L (cellV p.regs.toNat (stOf p))))] ∧ Kn p.regs.toNat p.code.length L (stOf p) ∧ StIs p.regs.toNat p.code p.params (stOf p) := by
 obtain ⟨h1, h2⟩ := fn_row11 p
 have hr := hs.regs
 have hp := hs.params
 have hc := hs.code
 exact states_call p.regs.toNat p.code p.params p.row h1 h2 (by rw [Fn.row_eq]; rfl) (by rw [Int.toNat_of_nonneg hr.1, Fn.row_eq]; rfl) (by rw [Fn.row_eq]; rfl) (fun d h => (frz_eq (d := d) (h := h)).elim fun φ e => by rw [e]; exact Fn.row_sub φ p)
  (by omega) hs.code0 (by omega) hp.1 (by omega) hs.fit n
theorem edges_of (p : Fn) (hs : Sound p) : Pure Tryz.prog 65 [.agg p.row] (.isl ((edgesL p.code).map erow)) := by
 obtain ⟨h1, h2⟩ := fn_row11 p
 have hc := hs.code
 exact edges_pure p.code p.row h1 h2 (by rw [Fn.row_eq]; rfl) (Fn.row_sub lost p) (by omega) (fnext p (by omega))
theorem first_pure (p : Fn) (hs : Sound p) : Pure Tryz.prog 38 [.agg p.row] (.int .i64 (firstF p)) := by
 obtain ⟨h1, h2⟩ := fn_row11 p
 have hE := edges_of p hs
 have hS := states_of p hs
 have hV := fun L hK hI a ha n st => violates_call p hs (stOf p) L hK hI a ha _ st n rfl
 have hF := fun k hk h hno => firstF_at (p := p) (k := k) hk h hno
 have hF0 := firstF_none (p := p)
 have hps := Fn.row_sub lost p
 have h5 : p.row[5]? = some (.isl (p.code.map Ins.row)) := by rw [Fn.row_eq]; rfl
 have l5 : (p.code.map Ins.row).length = p.code.length := List.length_map ..
 have hcl := hs.code
 generalize firstF p = fF at *
 generalize violF p (stOf p) = vF at *
 generalize p.code.map Ins.row = CR at *
 generalize (edgesL p.code).map erow = ER at *
 generalize p.row = pr at *
 refine Pure.of 0 (CallS.enter verify_first_ok (Nat.le_of_ble_eq_true rfl) (Run.go 100 ?_))
 simp -implicitDefEqProofs only [go_sem, Ins.v, Ins.row, initSl, h1, h2]
 refine ⟨?_, ?_⟩
 all_goals
  refine CallS.pureF hE (by simp -implicitDefEqProofs only [go_sem, Ins.v, Ins.row, hps]) ?_
  simp -implicitDefEqProofs only [go_sem, Ins.v, Ins.row, h1, h2]
  refine CallS.at [] [0] (hS _) rfl rfl ?_
  rintro r h' n1 hn1 ⟨st, L, rfl, rfl, hK, hI⟩
  have hV := fun a ha n => hV L hK hI a ha n st
  generalize hes : mapE L (cellV p.regs.toNat (stOf p)) = es at *
  simp -implicitDefEqProofs only [go_sem, Ins.v, Ins.row, h5, l5]
  refine Run.keep [12, 11, 3, 1] ?_
  refine Run.roundsK (fun (x : Nat × Nat) => ⟨[(12, .int .i64 x.1), (11, .int .i64 p.code.length), (3, .mp (64 * 10000 + 14) st), (1, .ptr (38 * 10000 + 1) 0 0 0)], [((64 * 10000 + 14), st, .map es), ((38 * 10000 + 1), 0, .rows 11 [pr])], x.2⟩)
   (fun x => x.1 ≤ p.code.length ∧ ∀ j, j < x.1 → vF j = false) (fun x => p.code.length - x.1) (0, n1) (Weak.wk (Weak.of (by simp -implicitDefEqProofs only [go_sem, Ins.v, Ins.row]) (fun e he => he) (Nat.le_refl _))) ⟨Nat.zero_le _, fun j hj => absurd hj (Nat.not_lt_zero _)⟩ ?_
  rintro ⟨k, m⟩ ⟨hk, hno⟩ ih
  simp only at hk hno ih ⊢
  refine Run.unf verify_first_l0_eq (Run.go 100 ?_)
  by_cases hlt : k < p.code.length
  ·have q0 : ((k : Int) < (p.code.length : Int)) = True := eq_true (by omega)
   have hzk : ((k + 1 : Nat) : Int) = (k : Int) + 1 := by omega
   simp -implicitDefEqProofs only [go_sem, Ins.v, Ins.row, q0, h1, h2]
   refine CallS.at [0] [1] (hV k hlt _) rfl rfl ?_
   rintro r h' n2 hn2 ⟨rfl, rfl⟩
   cases hv : vF k with
   | true =>
    simp -implicitDefEqProofs only [go_sem, Ins.v, Ins.row, hF k hlt hv hno]
   | false =>
    simp -implicitDefEqProofs only [go_sem, Ins.v, Ins.row]
    refine ⟨by omega, ih _ (k + 1, n2) ⟨by simp only; omega, fun j hj => ?_⟩ (by simp only; omega) (Weak.wk (Weak.of (by simp -implicitDefEqProofs only [go_sem, Ins.v, Ins.row, hzk]) (fun e he => he) (Nat.le_refl _)))⟩
    by_cases c : j = k
    ·subst c; exact hv
    ·exact hno j (by simp only at hj; omega)
  ·have e : k = p.code.length := by omega
   subst e
   have hf : fF = -1 := hF0.2 hno
   simp -implicitDefEqProofs only [go_sem, Ins.v, Ins.row, Int.lt_irrefl, hf]
def srV : Option (List Int × Int) → V
 | none => .tup [.isl [], .int .i64 0, .bool false]
 | some x => .tup [.isl (x.1.map zrw), .int .i64 x.2, .bool true]
theorem search_pure (p : Fn) (hp : p.bd) (hd : p.depth ≤ 1000000) (hk : chkE p = 0) : ∀ (w : List Int), w.length + p.depth ≤ 1000 → Pure Tryz.prog 25 [.agg p.row, .isl (w.map zrw)] (srV (p.srch w)) := by
 induction p using Fn.ind with
 | h p ih' =>
  intro w hw
  have hde := Fn.depth_eq p
  have ih : ∀ q ∈ p.protos, ∀ k : Nat, Pure Tryz.prog 25 [.agg q.row, .isl ((w ++ [(k : Int)]).map zrw)] (srV (q.srch (w ++ [(k : Int)]))) := fun q hq k => by
   have h1 := Fn.depths_mem hq
   exact ih' q hq (hp.child hq) (by omega) (chkE_within hk (Fn.child_mem (Fn.self_mem p) hq)) _ (by simp only [List.length_append, List.length_singleton]; omega)
  clear ih'
  obtain ⟨h1, h2⟩ := fn_row11 p
  have hps := Fn.row_sub lost p
  have hs : Sound p := .of hk
  have hf := first_pure p hs
  have hqz := hp.self.protos
  have h8 : p.row[8]? = some (.isl (p.protos.map Fn.row)) := by rw [Fn.row_eq]; rfl
  have l8 : (p.protos.map Fn.row).length = p.protos.length := List.length_map ..
  have z8 := eq_true (rowsz_of Fn.row 11 Fn.row_len p.protos)
  have r8 : ∀ (k : Nat) x, p.protos[k]? = some x → (p.protos.map Fn.row)[k]? = some (Fn.row x) := fun k x hk => by rw [List.getElem?_map, hk]; rfl
  have hsr := Fn.srch_eq p w
  have hwl : (w.map zrw).length = w.length := List.length_map ..
  have hwz := rowszZ' w
  have hwt : (w.map zrw).take w.length = w.map zrw := List.take_of_length_le (by omega)
  have hws := fun d h => (frz_eq (d := d) (h := h)).elim fun φ e => show (w.map zrw).map (fun r => r.map (frz d h)) = w.map zrw by rw [e]; exact zrw_sub φ _
  have hws2 := zrw_sub lost w
  have hwk : ∀ k : Nat, (w ++ [(k : Int)]).map zrw = w.map zrw ++ [[.int .i64 (k : Int)]] := fun k => by simp [zrw]
  have hcl := cloneI w (by omega)
  generalize firstF p = fF at *
  generalize p.srch w = sr at *
  generalize hW : w.map zrw = W at *
  generalize p.protos.map Fn.row = PR at *
  generalize p.row = pr at *
  refine Pure.of 0 (CallS.enter verify_search_ok (Nat.le_of_ble_eq_true rfl) (Run.go 100 ?_))
  simp -implicitDefEqProofs only [go_sem, Ins.v, Ins.row, initSl, h1, h2]
  refine CallS.pureF hf (by simp -implicitDefEqProofs only [go_sem, Ins.v, Ins.row, hps]) ?_
  by_cases hf0 : 0 ≤ fF
  ·rw [if_pos hf0] at hsr
   subst hsr
   simp -implicitDefEqProofs only [go_sem, Ins.v, Ins.row, hf0]
   rw [hws, ← hW]; rfl
  rw [if_neg hf0] at hsr
  simp -implicitDefEqProofs only [go_sem, Ins.v, Ins.row, hf0, h8, l8, h1, h2]
  refine Run.keep [22, 21, 20, 2, 1] ?_
  refine Run.roundsK (fun (x : Nat × Nat) => ⟨[(22, .int .i64 x.1), (21, .int .i64 p.protos.length), (20, .isl PR), (2, .ptr (25 * 10000 + 2) 0 0 0), (1, .isl W)], [((25 * 10000 + 2), 0, .rows 11 [pr])], x.2⟩)
   (fun x => x.1 ≤ p.protos.length ∧ sr = Fn.srchs (p.protos.drop x.1) x.1 w) (fun x => p.protos.length - x.1) (0, 1) (Weak.wk (Weak.of (by simp -implicitDefEqProofs only [go_sem, Ins.v, Ins.row]) (fun e he => he) (Nat.le_refl _))) ⟨Nat.zero_le _, hsr⟩ ?_
  rintro ⟨k, m⟩ ⟨hkl, hsk⟩ ihl
  simp only at hkl hsk ihl ⊢
  refine Run.unf verify_search_l0_eq (Run.go 100 ?_)
  by_cases hlt : k < p.protos.length
  ·have q0 : ((k : Int) < (p.protos.length : Int)) = True := eq_true (by omega)
   have q1 : ((0 : Int) ≤ (k : Int)) = True := eq_true (by omega)
   have hzk : ((k + 1 : Nat) : Int) = (k : Int) + 1 := by omega
   obtain ⟨q, hx⟩ : ∃ x, p.protos[k]? = some x := ⟨p.protos[k], by simp [hlt]⟩
   have hxr := r8 k q hx
   have hq := ih q (List.mem_of_getElem? hx) k
   obtain ⟨g1, g2⟩ := fn_row11 q
   have hqs := Fn.row_sub lost q
   have hdr : p.protos.drop k = q :: p.protos.drop (k + 1) := by
    obtain ⟨hk', e⟩ := List.getElem_of_getElem? hx
    rw [← e, List.getElem_cons_drop]
   rw [hdr, Fn.srchs] at hsk
   rw [hwk] at hq
   have hws3 : (W ++ [[V.int .i64 (k : Int)]]).map (fun r => r.map (V.sub lost)) = W ++ [[V.int .i64 (k : Int)]] := by rw [List.map_append, hws2]; rfl
   have hwl2 : (W ++ [[V.int .i64 (k : Int)]]).length = w.length + 1 := by rw [List.length_append, hwl]; rfl
   generalize q.row = qr at *
   simp -implicitDefEqProofs only [go_sem, Ins.v, Ins.row, q0, q1, l8, z8, g1, g2, hxr, hlt, Option.some.injEq, forall_eq']
   refine ⟨?_, ?_, ?_⟩
   all_goals
    refine CallS.at [] [0, 1] (hcl _) rfl rfl ?_
    rintro r h' n2 hn2 ⟨st, rfl, rfl⟩
    simp -implicitDefEqProofs only [go_sem, Ins.v, Ins.row, hwl, hwz, hwt, g1, g2]
    refine ⟨by omega, ?_⟩
    refine CallS.pre (xs' := [.agg qr, .isl (W ++ [[V.int .i64 (k : Int)]])]) (h' := [((25 * 10000 + 9), m, .rows 11 [qr]), ((25 * 10000 + 2), 0, .rows 11 [pr])]) (n' := n2 + 1) (.freeze (b := (39 * 10000 + 5)) (st := n2) (sz := 1) (rs := W ++ [[V.int .i64 (k : Int)]]) List.mem_cons_self ⟨Frz.all hwl2.symm, .of (.refl _), trivial⟩ (.at 1 rfl (by decide) (.of (.refl _)) (.at 2 rfl (by decide) (.of (.refl _)) trivial))) rfl ?_
    refine CallS.pureF hq (by simp -implicitDefEqProofs only [go_sem, Ins.v, Ins.row, hqs, hws3]) ?_
    cases hsq : q.srch (w ++ [(k : Int)]) with
    | none =>
     rw [hsq] at hsk
     simp only [srV]
     simp -implicitDefEqProofs only [go_sem, Ins.v, Ins.row]
     refine ⟨by omega, ihl _ (k + 1, n2 + 1) ⟨by simp only; omega, hsk⟩ (by simp only; omega) (Weak.wk (Weak.of (by simp -implicitDefEqProofs only [go_sem, Ins.v, Ins.row, hzk]) (fun e he => List.mem_cons_of_mem _ he) (Nat.le_refl _)))⟩
    | some x =>
     rw [hsq] at hsk
     subst hsk
     have hxs := fun d h => (frz_eq (d := d) (h := h)).elim fun φ e => show (x.1.map zrw).map (fun r => r.map (frz d h)) = x.1.map zrw by rw [e]; exact zrw_sub φ _
     simp only [srV]
     simp -implicitDefEqProofs only [go_sem, Ins.v, Ins.row, hxs]
  ·have e : k = p.protos.length := by omega
   subst e
   rw [List.drop_length, Fn.srchs] at hsk
   subst hsk
   simp -implicitDefEqProofs only [go_sem, Ins.v, Ins.row, Int.lt_irrefl]
   rfl
theorem explain_pure (p : Fn) (hp : p.bd) (hd : p.depth ≤ 900) : Pure Tryz.prog 11 [.agg p.row]
  (if chkE p ≠ 0 then .tup [.isl [], .int .i64 0, .int .i64 (chkE p)] else match p.srch [] with | none => .tup [.isl [], .int .i64 0, .int .i64 0] | some x => .tup [.isl (x.1.map zrw), .int .i64 x.2, .int .i64 21]) := by
 obtain ⟨h1, h2⟩ := fn_row11 p
 have hps := Fn.row_sub lost p
 have hc := pcheck_pure p hp (by omega)
 have hsr := fun hk => search_pure p hp (by omega) hk [] (by simp only [List.length_nil]; omega)
 generalize p.srch [] = sr at *
 generalize chkE p = z at *
 generalize p.row = pr at *
 refine Pure.of 0 (CallS.enter verify_Explain_ok (Nat.le_of_ble_eq_true rfl) (Run.go 100 ?_))
 simp -implicitDefEqProofs only [go_sem, Ins.v, Ins.row, initSl, h1, h2]
 refine CallS.pureF hc (by simp -implicitDefEqProofs only [go_sem, Ins.v, Ins.row, hps]) ?_
 by_cases hz : z = 0
 case neg =>
  rw [if_pos hz]
  simp -implicitDefEqProofs only [go_sem, Ins.v, Ins.row, hz]
 rw [if_neg (fun h => h hz)]
 have hq := hsr hz
 simp -implicitDefEqProofs only [go_sem, Ins.v, Ins.row, hz, h1, h2]
 refine CallS.pre (xs' := [.agg pr, .isl []]) (h' := [((11 * 10000 + 1), 0, .rows 11 [pr])]) (n' := 1) (.turn id ⟨SameV.nilI, .refl _, trivial⟩ (.at 0 rfl rfl (.refl _) trivial)) rfl ?_
 refine CallS.pureF hq (by simp -implicitDefEqProofs only [go_sem, Ins.v, Ins.row, hps, List.map_nil]) ?_
 cases sr with
 | none =>
  simp only [srV]
  simp -implicitDefEqProofs only [go_sem, Ins.v, Ins.row]
 | some x =>
  have hxs := fun d h => (frz_eq (d := d) (h := h)).elim fun φ e => show (x.1.map zrw).map (fun r => r.map (frz d h)) = x.1.map zrw by rw [e]; exact zrw_sub φ _
  simp only [srV]
  simp -implicitDefEqProofs only [go_sem, Ins.v, Ins.row, hxs]
theorem vcheck_pure (p : Fn) (hp : p.bd) (hd : p.depth ≤ 900) : Pure Tryz.prog 5 [.agg p.row] (.int .i64 (verE p)) := by
 obtain ⟨h1, h2⟩ := fn_row11 p
 have hps := Fn.row_sub lost p
 have hc := explain_pure p hp hd
 unfold verE
 generalize p.srch [] = sr at *
 generalize chkE p = z at *
 generalize p.row = pr at *
 by_cases hz : z = 0
 case neg =>
  rw [if_pos hz] at hc ⊢
  refine Pure.of 0 (CallS.enter verify_Check_ok (Nat.le_of_ble_eq_true rfl) (Run.go 100 ?_))
  simp -implicitDefEqProofs only [go_sem, Ins.v, Ins.row, initSl, h1, h2]
  refine CallS.pureF hc (by simp -implicitDefEqProofs only [go_sem, Ins.v, Ins.row, hps]) ?_
  simp -implicitDefEqProofs only [go_sem, Ins.v, Ins.row]
 rw [if_neg (fun h => h hz)] at hc ⊢
 cases sr with
 | none =>
  rw [if_pos rfl]
  refine Pure.of 0 (CallS.enter verify_Check_ok (Nat.le_of_ble_eq_true rfl) (Run.go 100 ?_))
  simp -implicitDefEqProofs only [go_sem, Ins.v, Ins.row, initSl, h1, h2]
  refine CallS.pureF hc (by simp -implicitDefEqProofs only [go_sem, Ins.v, Ins.row, hps]) ?_
  simp -implicitDefEqProofs only [go_sem, Ins.v, Ins.row]
 | some x =>
  rw [if_neg (fun h => by cases h)]
  simp only at hc
  refine Pure.of 0 (CallS.enter verify_Check_ok (Nat.le_of_ble_eq_true rfl) (Run.go 100 ?_))
  simp -implicitDefEqProofs only [go_sem, Ins.v, Ins.row, initSl, h1, h2]
  refine CallS.pureF hc (by simp -implicitDefEqProofs only [go_sem, Ins.v, Ins.row, hps]) ?_
  simp -implicitDefEqProofs only [go_sem, Ins.v, Ins.row]
end Go.Proofs.YtfkfphpnijkdlaaGreatDoor
