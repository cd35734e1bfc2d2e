/-
  Check, States, the small case. No condition.
-/
import Derived.Test.YtppcibdjmnpdhaaGreatDoorVerP4
import Derived.Test.YtppcibdjmnpdhaaGreatDoorFnMb
import Derived.Test.YtppcibdjmnpdhaaGreatDoorFnCk
set_option linter.unusedVariables false
set_option linter.unusedSimpArgs false
set_option maxRecDepth 100000
set_option maxHeartbeats 0
namespace Go.Proofs.YtppcibdjmnpdhaaGreatDoor
open Go.Abs
attribute [local irreducible] CallS Run
-- EV: Ins.v, Ins.row
attribute [local go_sem] Ins.v Ins.row
-- EV: Ins.v, Ins.row
theorem firstF_at {p : Fn} {k : Nat} (hk : k < p.code.length) (h : violF p (stOf p) k = true) (hno : ∀ j, j < k → violF p (stOf p) j = false) : firstF p = k := by
  have : (List.range p.code.length).find? (violF p (stOf p)) = some k := by
    rw [List.find?_range_eq_some]
    exact ⟨h, List.mem_range.2 hk, fun j hj => by rw [hno j hj]; rfl⟩
  unfold firstF
  rw [this]
theorem states_of (p : Fn) (hs : Sound p) (n : Nat) :
    CallS Tryz.prog 19 [.agg p.row, .isl ((edgesL p.code).map erow)] [] n fun r h' n' => ∃ st L, r = .mp (19 * 10000 + 14) st ∧ h' = [((19 * 10000 + 14), st, .map (mapE L (cellV p.regs.toNat (stOf p))))] ∧ Kn p.regs.toNat p.code.length L (stOf p) ∧ StIs p.regs.toNat p.code p.params (stOf p) := by
  obtain ⟨h1, h2⟩ := fn_row11 p
  have hr := hs.regs
  have hp := hs.params
  have hc := hs.code
  exact states_call p.regs.toNat p.code p.params p.row h1 h2 (by rw [Fn.row_eq]; rfl) (by rw [Int.toNat_of_nonneg hr.1, Fn.row_eq]; rfl) (by rw [Fn.row_eq]; rfl) (fun d h => (frz_eq (d := d) (h := h)).elim fun φ e => by rw [e]; exact Fn.row_sub φ p)
    (by omega) hs.code0 (by omega) hp.1 (by omega) hs.fit n
theorem edges_of (p : Fn) (hs : Sound p) : Pure Tryz.prog 20 [.agg p.row] (.isl ((edgesL p.code).map erow)) := by
  obtain ⟨h1, h2⟩ := fn_row11 p
  have hc := hs.code
  exact edges_pure p.code p.row h1 h2 (by rw [Fn.row_eq]; rfl) (Fn.row_sub lost p) (by omega) (fnext p (by omega))
theorem first_pure (p : Fn) (hs : Sound p) : Pure Tryz.prog 59 [.agg p.row] (.int .i64 (firstF p)) := by
  obtain ⟨h1, h2⟩ := fn_row11 p
  have hE := edges_of p hs
  have hS := states_of p hs
  have hV := fun L hK hI a ha n st => violates_call p hs (stOf p) L hK hI a ha _ st n rfl
  have hF := fun k hk h hno => firstF_at (p := p) (k := k) hk h hno
  have hF0 := firstF_none (p := p)
  have hps := Fn.row_sub lost p
  have h5 : p.row[5]? = some (.isl (p.code.map Ins.row)) := by rw [Fn.row_eq]; rfl
  have l5 : (p.code.map Ins.row).length = p.code.length := List.length_map ..
  have hcl := hs.code
  generalize firstF p = fF at *
  generalize violF p (stOf p) = vF at *
  generalize p.code.map Ins.row = CR at *
  generalize (edgesL p.code).map erow = ER at *
  generalize p.row = pr at *
  refine Pure.of 0 (CallS.enter verify_first_ok (Nat.le_of_ble_eq_true rfl) (Run.go 100 ?_))
  simp -implicitDefEqProofs only [go_sem, initSl, h1, h2]
  refine ⟨?_, ?_⟩
  all_goals
    refine CallS.pureF hE (by simp -implicitDefEqProofs only [go_sem, hps]) ?_
    simp -implicitDefEqProofs only [go_sem, h1, h2]
    refine CallS.at [] [0] (hS _) rfl rfl ?_
    rintro r h' n1 hn1 ⟨st, L, rfl, rfl, hK, hI⟩
    have hV := fun a ha n => hV L hK hI a ha n st
    generalize hes : mapE L (cellV p.regs.toNat (stOf p)) = es at *
    simp -implicitDefEqProofs only [go_sem, h5, l5]
    refine Run.keep [12, 11, 3, 1] ?_
    refine Run.roundsK (fun (x : Nat × Nat) => ⟨[(12, .int .i64 x.1), (11, .int .i64 p.code.length), (3, .mp (19 * 10000 + 14) st), (1, .ptr (59 * 10000 + 1) 0 0 0)], [((19 * 10000 + 14), st, .map es), ((59 * 10000 + 1), 0, .rows 11 [pr])], x.2⟩)
      (fun x => x.1 ≤ p.code.length ∧ ∀ j, j < x.1 → vF j = false) (fun x => p.code.length - x.1) (0, n1) (Weak.wk (Weak.of (by simp -implicitDefEqProofs only [go_sem]) (fun e he => he) (Nat.le_refl _))) ⟨Nat.zero_le _, fun j hj => absurd hj (Nat.not_lt_zero _)⟩ ?_
    rintro ⟨k, m⟩ ⟨hk, hno⟩ ih
    simp only at hk hno ih ⊢
    refine Run.unf verify_first_l0_eq (Run.go 100 ?_)
    by_cases hlt : k < p.code.length
    · have q0 : ((k : Int) < (p.code.length : Int)) = True := eq_true (by omega)
      have hzk : ((k + 1 : Nat) : Int) = (k : Int) + 1 := by omega
      simp -implicitDefEqProofs only [go_sem, q0, h1, h2]
      refine CallS.at [0] [1] (hV k hlt _) rfl rfl ?_
      rintro r h' n2 hn2 ⟨rfl, rfl⟩
      cases hv : vF k with
      | true =>
        simp -implicitDefEqProofs only [go_sem, hF k hlt hv hno]
      | false =>
        simp -implicitDefEqProofs only [go_sem]
        refine ⟨by omega, ih _ (k + 1, n2) ⟨by simp only; omega, fun j hj => ?_⟩ (by simp only; omega) (Weak.wk (Weak.of (by simp -implicitDefEqProofs only [go_sem, hzk]) (fun e he => he) (Nat.le_refl _)))⟩
        by_cases c : j = k
        · subst c; exact hv
        · exact hno j (by simp only at hj; omega)
    · have e : k = p.code.length := by omega
      subst e
      have hf : fF = -1 := hF0.2 hno
      simp -implicitDefEqProofs only [go_sem, Int.lt_irrefl, hf]
def srV : Option (List Int × Int) → V
  | none => .tup [.isl [], .int .i64 0, .bool false]
  | some x => .tup [.isl (x.1.map zrw), .int .i64 x.2, .bool true]
theorem search_pure (p : Fn) (hp : p.bd) (hd : p.depth ≤ 1000000) (hk : chkE p = 0) : ∀ (w : List Int), w.length + p.depth ≤ 1000 → Pure Tryz.prog 39 [.agg p.row, .isl (w.map zrw)] (srV (p.srch w)) := by
  induction p using Fn.ind with
  | h p ih' =>
    intro w hw
    have hde := Fn.depth_eq p
    have ih : ∀ q ∈ p.protos, ∀ k : Nat, Pure Tryz.prog 39 [.agg q.row, .isl ((w ++ [(k : Int)]).map zrw)] (srV (q.srch (w ++ [(k : Int)]))) := fun q hq k => by
      have h1 := Fn.depths_mem hq
      exact ih' q hq (hp.child hq) (by omega) (chkE_within hk (Fn.child_mem (Fn.self_mem p) hq)) _ (by simp only [List.length_append, List.length_singleton]; omega)
    clear ih'
    obtain ⟨h1, h2⟩ := fn_row11 p
    have hps := Fn.row_sub lost p
    have hs : Sound p := .of hk
    have hf := first_pure p hs
    have hqz := hp.self.protos
    have h8 : p.row[8]? = some (.isl (p.protos.map Fn.row)) := by rw [Fn.row_eq]; rfl
    have l8 : (p.protos.map Fn.row).length = p.protos.length := List.length_map ..
    have z8 := eq_true (rowsz_of Fn.row 11 Fn.row_len p.protos)
    have r8 : ∀ (k : Nat) x, p.protos[k]? = some x → (p.protos.map Fn.row)[k]? = some (Fn.row x) := fun k x hk => by rw [List.getElem?_map, hk]; rfl
    have hsr := Fn.srch_eq p w
    have hwl : (w.map zrw).length = w.length := List.length_map ..
    have hwz := rowszZ' w
    have hwt : (w.map zrw).take w.length = w.map zrw := List.take_of_length_le (by omega)
    have hws := fun d h => (frz_eq (d := d) (h := h)).elim fun φ e => show (w.map zrw).map (fun r => r.map (frz d h)) = w.map zrw by rw [e]; exact zrw_sub φ _
    have hws2 := zrw_sub lost w
    have hwk : ∀ k : Nat, (w ++ [(k : Int)]).map zrw = w.map zrw ++ [[.int .i64 (k : Int)]] := fun k => by simp [zrw]
    have hcl := cloneI w (by omega)
    generalize firstF p = fF at *
    generalize p.srch w = sr at *
    generalize hW : w.map zrw = W at *
    generalize p.protos.map Fn.row = PR at *
    generalize p.row = pr at *
    refine Pure.of 0 (CallS.enter verify_search_ok (Nat.le_of_ble_eq_true rfl) (Run.go 100 ?_))
    simp -implicitDefEqProofs only [go_sem, initSl, h1, h2]
    refine CallS.pureF hf (by simp -implicitDefEqProofs only [go_sem, hps]) ?_
    by_cases hf0 : 0 ≤ fF
    · rw [if_pos hf0] at hsr
      subst hsr
      simp -implicitDefEqProofs only [go_sem, hf0]
      rw [hws, ← hW]; rfl
    rw [if_neg hf0] at hsr
    simp -implicitDefEqProofs only [go_sem, hf0, h8, l8, h1, h2]
    refine Run.keep [22, 21, 20, 2, 1] ?_
    refine Run.roundsK (fun (x : Nat × Nat) => ⟨[(22, .int .i64 x.1), (21, .int .i64 p.protos.length), (20, .isl PR), (2, .ptr (39 * 10000 + 2) 0 0 0), (1, .isl W)], [((39 * 10000 + 2), 0, .rows 11 [pr])], x.2⟩)
      (fun x => x.1 ≤ p.protos.length ∧ sr = Fn.srchs (p.protos.drop x.1) x.1 w) (fun x => p.protos.length - x.1) (0, 1) (Weak.wk (Weak.of (by simp -implicitDefEqProofs only [go_sem]) (fun e he => he) (Nat.le_refl _))) ⟨Nat.zero_le _, hsr⟩ ?_
    rintro ⟨k, m⟩ ⟨hkl, hsk⟩ ihl
    simp only at hkl hsk ihl ⊢
    refine Run.unf verify_search_l0_eq (Run.go 100 ?_)
    by_cases hlt : k < p.protos.length
    · have q0 : ((k : Int) < (p.protos.length : Int)) = True := eq_true (by omega)
      have q1 : ((0 : Int) ≤ (k : Int)) = True := eq_true (by omega)
      have hzk : ((k + 1 : Nat) : Int) = (k : Int) + 1 := by omega
      obtain ⟨q, hx⟩ : ∃ x, p.protos[k]? = some x := ⟨p.protos[k], by simp [hlt]⟩
      have hxr := r8 k q hx
      have hq := ih q (List.mem_of_getElem? hx) k
      obtain ⟨g1, g2⟩ := fn_row11 q
      have hqs := Fn.row_sub lost q
      have hdr : p.protos.drop k = q :: p.protos.drop (k + 1) := by
        obtain ⟨hk', e⟩ := List.getElem_of_getElem? hx
        rw [← e, List.getElem_cons_drop]
      rw [hdr, Fn.srchs] at hsk
      rw [hwk] at hq
      have hws3 : (W ++ [[V.int .i64 (k : Int)]]).map (fun r => r.map (V.sub lost)) = W ++ [[V.int .i64 (k : Int)]] := by rw [List.map_append, hws2]; rfl
      have hwl2 : (W ++ [[V.int .i64 (k : Int)]]).length = w.length + 1 := by rw [List.length_append, hwl]; rfl
      generalize q.row = qr at *
      simp -implicitDefEqProofs only [go_sem, q0, q1, l8, z8, g1, g2, hxr, hlt, Option.some.injEq, forall_eq']
      refine ⟨?_, ?_, ?_⟩
      all_goals
        refine CallS.at [] [0, 1] (hcl _) rfl rfl ?_
        rintro r h' n2 hn2 ⟨st, rfl, rfl⟩
        simp -implicitDefEqProofs only [go_sem, hwl, hwz, hwt, g1, g2]
        refine ⟨by omega, ?_⟩
        refine CallS.pre (xs' := [.agg qr, .isl (W ++ [[V.int .i64 (k : Int)]])]) (h' := [((39 * 10000 + 9), m, .rows 11 [qr]), ((39 * 10000 + 2), 0, .rows 11 [pr])]) (n' := n2 + 1) (.freeze (b := (60 * 10000 + 5)) (st := n2) (sz := 1) (rs := W ++ [[V.int .i64 (k : Int)]]) List.mem_cons_self ⟨Frz.all hwl2.symm, .of (.refl _), trivial⟩ (.at 1 rfl (by decide) (.of (.refl _)) (.at 2 rfl (by decide) (.of (.refl _)) trivial))) rfl ?_
        refine CallS.pureF hq (by simp -implicitDefEqProofs only [go_sem, hqs, hws3]) ?_
        cases hsq : q.srch (w ++ [(k : Int)]) with
        | none =>
          rw [hsq] at hsk
          simp only [srV]
          simp -implicitDefEqProofs only [go_sem]
          refine ⟨by omega, ihl _ (k + 1, n2 + 1) ⟨by simp only; omega, hsk⟩ (by simp only; omega) (Weak.wk (Weak.of (by simp -implicitDefEqProofs only [go_sem, hzk]) (fun e he => List.mem_cons_of_mem _ he) (Nat.le_refl _)))⟩
        | some x =>
          rw [hsq] at hsk
          subst hsk
          have hxs := fun d h => (frz_eq (d := d) (h := h)).elim fun φ e => show (x.1.map zrw).map (fun r => r.map (frz d h)) = x.1.map zrw by rw [e]; exact zrw_sub φ _
          simp only [srV]
          simp -implicitDefEqProofs only [go_sem, hxs]
    · have e : k = p.protos.length := by omega
      subst e
      rw [List.drop_length, Fn.srchs] at hsk
      subst hsk
      simp -implicitDefEqProofs only [go_sem, Int.lt_irrefl]
      rfl
theorem explain_pure (p : Fn) (hp : p.bd) (hd : p.depth ≤ 900) : Pure Tryz.prog 21 [.agg p.row]
    (if chkE p ≠ 0 then .tup [.isl [], .int .i64 0, .int .i64 (chkE p)] else match p.srch [] with | none => .tup [.isl [], .int .i64 0, .int .i64 0] | some x => .tup [.isl (x.1.map zrw), .int .i64 x.2, .int .i64 21]) := by
  obtain ⟨h1, h2⟩ := fn_row11 p
  have hps := Fn.row_sub lost p
  have hc := pcheck_pure p hp (by omega)
  have hsr := fun hk => search_pure p hp (by omega) hk [] (by simp only [List.length_nil]; omega)
  generalize p.srch [] = sr at *
  generalize chkE p = z at *
  generalize p.row = pr at *
  refine Pure.of 0 (CallS.enter verify_Explain_ok (Nat.le_of_ble_eq_true rfl) (Run.go 100 ?_))
  simp -implicitDefEqProofs only [go_sem, initSl, h1, h2]
  refine CallS.pureF hc (by simp -implicitDefEqProofs only [go_sem, hps]) ?_
  by_cases hz : z = 0
  case neg =>
    rw [if_pos hz]
    simp -implicitDefEqProofs only [go_sem, hz]
  rw [if_neg (fun h => h hz)]
  have hq := hsr hz
  simp -implicitDefEqProofs only [go_sem, hz, h1, h2]
  refine CallS.pre (xs' := [.agg pr, .isl []]) (h' := [((21 * 10000 + 1), 0, .rows 11 [pr])]) (n' := 1) (.turn id ⟨SameV.nilI, .refl _, trivial⟩ (.at 0 rfl rfl (.refl _) trivial)) rfl ?_
  refine CallS.pureF hq (by simp -implicitDefEqProofs only [go_sem, hps, List.map_nil]) ?_
  cases sr with
  | none =>
    simp only [srV]
    simp -implicitDefEqProofs only [go_sem]
  | some x =>
    have hxs := fun d h => (frz_eq (d := d) (h := h)).elim fun φ e => show (x.1.map zrw).map (fun r => r.map (frz d h)) = x.1.map zrw by rw [e]; exact zrw_sub φ _
    simp only [srV]
    simp -implicitDefEqProofs only [go_sem, hxs]
theorem vcheck_pure (p : Fn) (hp : p.bd) (hd : p.depth ≤ 900) : Pure Tryz.prog 9 [.agg p.row] (.int .i64 (verE p)) := by
  obtain ⟨h1, h2⟩ := fn_row11 p
  have hps := Fn.row_sub lost p
  have hc := explain_pure p hp hd
  unfold verE
  generalize p.srch [] = sr at *
  generalize chkE p = z at *
  generalize p.row = pr at *
  by_cases hz : z = 0
  case neg =>
    rw [if_pos hz] at hc ⊢
    refine Pure.of 0 (CallS.enter verify_Check_ok (Nat.le_of_ble_eq_true rfl) (Run.go 100 ?_))
    simp -implicitDefEqProofs only [go_sem, initSl, h1, h2]
    refine CallS.pureF hc (by simp -implicitDefEqProofs only [go_sem, hps]) ?_
    simp -implicitDefEqProofs only [go_sem]
  rw [if_neg (fun h => h hz)] at hc ⊢
  cases sr with
  | none =>
    rw [if_pos rfl]
    refine Pure.of 0 (CallS.enter verify_Check_ok (Nat.le_of_ble_eq_true rfl) (Run.go 100 ?_))
    simp -implicitDefEqProofs only [go_sem, initSl, h1, h2]
    refine CallS.pureF hc (by simp -implicitDefEqProofs only [go_sem, hps]) ?_
    simp -implicitDefEqProofs only [go_sem]
  | some x =>
    rw [if_neg (fun h => by cases h)]
    simp only at hc
    refine Pure.of 0 (CallS.enter verify_Check_ok (Nat.le_of_ble_eq_true rfl) (Run.go 100 ?_))
    simp -implicitDefEqProofs only [go_sem, initSl, h1, h2]
    refine CallS.pureF hc (by simp -implicitDefEqProofs only [go_sem, hps]) ?_
    simp -implicitDefEqProofs only [go_sem]
-- EV: Ins.v, Ins.row
def stW (N : Nat) : Option Stt → List V
  | none => [.nils, .int .i64 0, .nils]
  | some s => [.isl (boolR N s.set), .int .i64 s.opn, .isl (s.marks.map zrw)]
def stR (N : Nat) : Option Stt → List V
  | none => [.isl [], .int .i64 0, .isl []]
  | some s => [.isl (boolR N s.set), .int .i64 s.opn, .isl (s.marks.map zrw)]
theorem stR_len (N : Nat) (o : Option Stt) : (stR N o).length = 3 := by cases o <;> rfl
theorem stW_frz (N : Nat) (o : Option Stt) (d : Nat) (h : Heap) : (stW N o).map (frz d h) = stR N o := by
  obtain ⟨φ, e⟩ := frz_eq (d := d) (h := h)
  rw [e]
  cases o with
  | none => simp [stW, stR, V.sub]
  | some s => simp only [stW, stR, List.map_cons, List.map_nil, V.sub, subLL_map, boolR_sub, zrw_sub]
def stRows (N n : Nat) (M : Nat → Option Stt) (k : Nat) : List (List V) := (List.range n).map fun a => if a < k then stW N (M a) else [.nils, .int .i64 0, .nils]
theorem stRows_len (N n : Nat) (M : Nat → Option Stt) (k : Nat) : (stRows N n M k).length = n := by simp [stRows]
theorem stRows_zero (N n : Nat) (M : Nat → Option Stt) : stRows N n M 0 = List.replicate n [.nils, .int .i64 0, .nils] := by
  unfold stRows
  simp only [Nat.not_lt_zero, if_false]
  rw [List.map_const']; simp
theorem stRows_next {N n : Nat} {M : Nat → Option Stt} {k : Nat} (h : k < n) : (stRows N n M k).set k (stW N (M k)) = stRows N n M (k + 1) := by
  refine List.ext_getElem? fun j => ?_
  rw [List.getElem?_set, stRows_len]
  unfold stRows
  simp only [List.getElem?_map]
  by_cases c : k = j
  · subst c
    rw [if_pos rfl, if_pos h, List.getElem?_range h]
    simp
  · rw [if_neg c]
    by_cases hj : j < n
    · rw [List.getElem?_range hj]
      simp only [Option.map_some]
      have : (j < k + 1) = (j < k) := propext ⟨fun _ => by omega, fun _ => by omega⟩
      simp only [this]
    · rw [List.getElem?_eq_none (by simp; omega)]; rfl
theorem stRows_none {N n : Nat} {M : Nat → Option Stt} {k : Nat} (h : k < n) (hn : M k = none) : stRows N n M k = stRows N n M (k + 1) := by
  rw [← stRows_next h, hn]
  refine (List.ext_getElem? fun j => ?_)
  rw [List.getElem?_set, stRows_len]
  by_cases c : k = j
  · subst c
    rw [if_pos rfl, if_pos h]
    unfold stRows
    rw [List.getElem?_map, List.getElem?_range h]
    simp [stW]
  · rw [if_neg c]
theorem stRows_sz (N n : Nat) (M : Nat → Option Stt) (k : Nat) : rowsz (stRows N n M k) 3 = True := eq_true fun r hr => by
  obtain ⟨a, _, rfl⟩ := List.mem_map.1 hr
  split
  · cases M a <;> rfl
  · rfl
def stL (N n : Nat) (M : Nat → Option Stt) : List (List V) := (List.range n).map fun a => stR N (M a)
theorem stRows_frz (N n : Nat) (M : Nat → Option Stt) (d : Nat) (h : Heap) : (stRows N n M n).map (fun r => r.map (frz d h)) = stL N n M := by
  unfold stRows stL
  rw [List.map_map]
  refine List.map_congr_left fun a ha => ?_
  simp only [Function.comp, if_pos (List.mem_range.1 ha), stW_frz]
theorem vstates_pure (p : Fn) (hp : p.bd) (hd : p.depth ≤ 900) : Pure Tryz.prog 8 [.agg p.row]
    (if chkE p ≠ 0 then .tup [.isl [], .int .i64 (chkE p)] else .tup [.isl (stL p.regs.toNat p.code.length (stOf p)), .int .i64 0]) := by
  obtain ⟨h1, h2⟩ := fn_row11 p
  have hps := Fn.row_sub lost p
  have hc := pcheck_pure p hp (by omega)
  by_cases hz : chkE p = 0
  case neg =>
    rw [if_pos hz]
    generalize chkE p = z at *
    generalize p.row = pr at *
    refine Pure.of 0 (CallS.enter verify_States_ok (Nat.le_of_ble_eq_true rfl) (Run.go 100 ?_))
    simp -implicitDefEqProofs only [go_sem, initSl, h1, h2]
    refine CallS.pureF hc (by simp -implicitDefEqProofs only [go_sem, hps]) ?_
    simp -implicitDefEqProofs only [go_sem, hz]
  rw [if_neg (fun h => h hz)]
  rw [hz] at hc
  have hs := Sound.of hz
  have hE := edges_of p hs
  have hS := states_of p hs
  have hcl := hs.code
  have h5 : p.row[5]? = some (.isl (p.code.map Ins.row)) := by rw [Fn.row_eq]; rfl
  have l5 : (p.code.map Ins.row).length = p.code.length := List.length_map ..
  have hfin := fun d h => stRows_frz p.regs.toNat p.code.length (stOf p) d h
  generalize p.code.map Ins.row = CR at *
  generalize (edgesL p.code).map erow = ER at *
  generalize p.row = pr at *
  refine Pure.of 1 (CallS.enter verify_States_ok (Nat.le_of_ble_eq_true rfl) (Run.go 100 ?_))
  simp -implicitDefEqProofs only [go_sem, initSl, h1, h2]
  refine CallS.pureF hc (by simp -implicitDefEqProofs only [go_sem, hps]) ?_
  simp -implicitDefEqProofs only [go_sem, h1, h2]
  refine ⟨?_, ?_⟩
  all_goals
    refine CallS.pureF hE (by simp -implicitDefEqProofs only [go_sem, hps]) ?_
    simp -implicitDefEqProofs only [go_sem, h1, h2]
    refine CallS.at [] [0] (hS _) rfl rfl ?_
    rintro r h' n1 hn1 ⟨st, L, rfl, rfl, hK, hI⟩
    simp -implicitDefEqProofs only [go_sem, h5, l5]
    refine ⟨by omega, by omega, ?_⟩
    refine Run.keep [25, 24, 6, 5] ?_
    have hok : ∀ z : Int, keyOK (.int .i64 z) (mapE L (cellV p.regs.toNat (stOf p))) = True := fun z => eq_true ((mapE_keys _ _).ok z)
    have hz0 := stRows_zero p.regs.toNat p.code.length (stOf p)
    have hno := fun k hk => mapE_no (F := cellV p.regs.toNat (stOf p)) (hK.no (k := k) hk)
    have hyes := fun k s (hk : stOf p k = some s) => (mapE_yes (F := cellV p.regs.toNat (stOf p)) (hK.yes hk)).trans (show _ = some (sttV (.isl (boolR p.regs.toNat s.set)) s) by simp only [cellV, hk])
    generalize mapE L (cellV p.regs.toNat (stOf p)) = es at *
    refine Run.roundsK (fun (x : Nat × Nat) => ⟨[(25, .int .i64 x.1), (24, .int .i64 p.code.length), (6, .sl (8 * 10000 + 22) n1 0 p.code.length), (5, .mp (19 * 10000 + 14) st)],
        [((8 * 10000 + 22), n1, .rows 3 (stRows p.regs.toNat p.code.length (stOf p) x.1)), ((19 * 10000 + 14), st, .map es)], x.2⟩)
      (fun x => x.1 ≤ p.code.length) (fun x => p.code.length - x.1) (0, n1 + 1) ?_ (Nat.zero_le _) ?_
    · simp only [hz0]
      exact Weak.wk (Weak.of (by simp -implicitDefEqProofs only [go_sem]) (fun e he => by simp only [List.mem_cons] at he ⊢; rcases he with h | h | h <;> simp only [h, eq_self, true_or, or_true]) (Nat.le_refl _))
    rintro ⟨k, m⟩ hk ih
    simp only at hk ih ⊢
    refine Run.unf verify_States_l0_eq (Run.go 100 ?_)
    have hsl := stRows_len p.regs.toNat p.code.length (stOf p) k
    have hsz := stRows_sz p.regs.toNat p.code.length (stOf p) k
    by_cases hlt : k < p.code.length
    · have q0 : ((k : Int) < (p.code.length : Int)) = True := eq_true (by omega)
      have q1 : ((0 : Int) ≤ (k : Int)) = True := eq_true (by omega)
      have hzk : ((k + 1 : Nat) : Int) = (k : Int) + 1 := by omega
      cases hm : stOf p k with
      | none =>
        have hf := hno k hm
        have hn := stRows_none (N := p.regs.toNat) hlt hm
        simp -implicitDefEqProofs only [go_sem, q0, q1, hf, hok]
        refine ⟨by omega, ih _ (k + 1, m + 1) (by simp only; omega) (by simp only; omega) (Weak.wk (Weak.of (by simp -implicitDefEqProofs only [go_sem, hzk]) (fun e he => by rw [← hn] at he; exact List.mem_cons_of_mem _ he) (Nat.le_refl _)))⟩
      | some s =>
        have hf := hyes k s hm
        have hn := stRows_next (N := p.regs.toNat) (M := stOf p) hlt
        rw [hm] at hn
        simp only [stW] at hn
        generalize hR : stRows p.regs.toNat p.code.length (stOf p) k = R at *
        simp -implicitDefEqProofs only [go_sem, q0, q1, hf, hok, sttV, hsl, hsz, hlt]
        intro row hrow
        have h3 : row.length = 3 := (of_eq_true hsz) row (List.mem_of_getElem? hrow)
        rw [List.drop_eq_nil_of_le (Nat.le_of_eq h3), hn]
        refine ⟨by omega, ⟨by omega, by omega⟩, ih _ (k + 1, m + 1) (by simp only; omega) (by simp only; omega) (Weak.wk (Weak.of (by simp -implicitDefEqProofs only [go_sem, hzk]) (fun e he => by simp only [List.mem_cons] at he ⊢; rcases he with h | h | h | h <;> simp only [h, eq_self, true_or, or_true]) (Nat.le_refl _)))⟩
    · have e : k = p.code.length := by omega
      subst e
      have hf1 := hfin
      have htk : (stRows p.regs.toNat p.code.length (stOf p) p.code.length).take p.code.length = stRows p.regs.toNat p.code.length (stOf p) p.code.length := List.take_of_length_le (by omega)
      simp -implicitDefEqProofs only [go_sem, Int.lt_irrefl, hsl, htk]
      exact hfin _ _
-- EV: Ins.v, Ins.row
def ret1 : Ins := ⟨18, 0, 1, 0, 0⟩
def nil1 : Ins := ⟨3, 0, 0, 0, 0⟩
def lv1 : Fn := ⟨[], 0, 0, false, 1, [ret1], [], [], [], [], []⟩
def lv2 : Fn := ⟨[], 0, 0, false, 1, [nil1, ret1], [], [], [], [], []⟩
theorem lv1_chk : chkE lv1 = 0 := by
  rw [chkE_iff, Fn.each_eq, Fn.depth_eq]
  refine ⟨by decide, fun q hq => ?_⟩
  rw [List.mem_singleton.1 (show q ∈ [lv1] from hq)]
  decide
theorem lv2_chk : chkE lv2 = 0 := by
  rw [chkE_iff, Fn.each_eq, Fn.depth_eq]
  refine ⟨by decide, fun q hq => ?_⟩
  rw [List.mem_singleton.1 (show q ∈ [lv2] from hq)]
  decide
theorem lv1_edges : edgesL lv1.code = [] := by kernel_rfl
theorem lv2_edges : edgesL lv2.code = [(0, 1)] := by kernel_rfl
theorem lv1_st : stOf lv1 = M0 1 0 := by
  refine (stM_eq ⟨0, rfl, ?_⟩).symm
  unfold roundM
  rw [lv1_edges]; rfl
def lvM : Nat → Option Stt := updM (M0 1 0) 1 (passF 1 nil1 0 1 (entF 1 0))
theorem lv2_st : stOf lv2 = lvM := by
  have hi : insAt lv2.code 0 = nil1 := rfl
  have h0 : roundM 1 lv2.code (M0 1 0) = lvM := by
    unfold roundM
    rw [lv2_edges, List.foldl_cons, List.foldl_nil]
    rfl
  refine (stM_eq ⟨1, h0.symm, ?_⟩).symm
  unfold roundM
  rw [lv2_edges, List.foldl_cons, List.foldl_nil]
  show updM lvM 1 (joinF (passF 1 nil1 0 1 (entF 1 0)) (passF 1 nil1 0 1 (entF 1 0))) = lvM
  have hj : joinF (passF 1 nil1 0 1 (entF 1 0)) (passF 1 nil1 0 1 (entF 1 0)) = passF 1 nil1 0 1 (entF 1 0) := by
    unfold joinF
    have : (fun r => (passF 1 nil1 0 1 (entF 1 0)).set r && (passF 1 nil1 0 1 (entF 1 0)).set r) = (passF 1 nil1 0 1 (entF 1 0)).set := by
      funext r; exact Bool.and_self _
    rw [this]
  rw [hj]
  exact updM_same rfl
theorem lv1_ver : verE lv1 = 21 := by
  unfold verE
  rw [if_neg (fun h => h lv1_chk)]
  have h : firstF lv1 = (0 : Nat) := firstF_at (by decide) (by rw [lv1_st]; decide) (fun j hj => absurd hj (Nat.not_lt_zero _))
  rw [Fn.srch_eq, h]
  rfl
theorem lv2_ver : verE lv2 = 0 := by
  refine (verE_iff _).2 ⟨lv2_chk, fun x hx => ?_⟩
  rw [Fn.each_eq] at hx
  rw [List.mem_singleton.1 (show x ∈ [lv2] from hx)]
  refine firstF_none.2 fun a ha => ?_
  rw [lv2_st]
  have : a = 0 ∨ a = 1 := by have : a < 2 := ha; omega
  rcases this with e | e
  · rw [e]; exact (show violF lv2 lvM 0 = false by kernel_rfl)
  · rw [e]; exact (show violF lv2 lvM 1 = false by kernel_rfl)
def ret1R : List V := [.int .i64 18, .int .i64 0, .int .i64 1, .int .i64 0, .int .i64 0]
def nil1R : List V := [.int .i64 3, .int .i64 0, .int .i64 0, .int .i64 0, .int .i64 0]
def lv1R : List V := [.str [], .int .i64 0, .int .i64 0, .bool false, .int .i64 1, .isl [ret1R], .isl [], .isl [], .isl [], .isl [], .isl []]
def lv2R : List V := [.str [], .int .i64 0, .int .i64 0, .bool false, .int .i64 1, .isl [nil1R, ret1R], .isl [], .isl [], .isl [], .isl [], .isl []]
theorem lv1_row : lv1.row = lv1R := by rw [Fn.row_eq]; rfl
theorem lv2_row : lv2.row = lv2R := by rw [Fn.row_eq]; rfl
theorem lv1_check : Pure Tryz.prog 9 [.agg lv1R] (.int .i64 21) := by
  have hb : lv1.bd := fun q hq => by
    rw [Fn.each_eq] at hq
    rw [List.mem_singleton.1 (show q ∈ [lv1] from hq)]
    exact ⟨by decide, by decide, by decide, by decide, by decide, by decide⟩
  have := vcheck_pure lv1 hb (by rw [Fn.depth_eq]; decide)
  rwa [lv1_row, lv1_ver] at this
theorem lv2_check : Pure Tryz.prog 9 [.agg lv2R] (.int .i64 0) := by
  have hb : lv2.bd := fun q hq => by
    rw [Fn.each_eq] at hq
    rw [List.mem_singleton.1 (show q ∈ [lv2] from hq)]
    exact ⟨by decide, by decide, by decide, by decide, by decide, by decide⟩
  have := vcheck_pure lv2 hb (by rw [Fn.depth_eq]; decide)
  rwa [lv2_row, lv2_ver] at this
theorem vlives_pure : Pure Tryz.prog 7 [] (.bool true) := by
  refine Pure.of 0 (CallS.enter scriptinglaw36_lives_ok (Nat.le_of_ble_eq_true rfl) (Run.go 100 ?_))
  simp -implicitDefEqProofs only [go_sem, initSl]
  refine CallS.view lv1_check 3 (by simp -implicitDefEqProofs only [go_sem, lv1R, ret1R]) rfl ?_
  simp -implicitDefEqProofs only [go_sem]
  refine CallS.view lv2_check 3 (by simp -implicitDefEqProofs only [go_sem, lv2R, nil1R, ret1R]) rfl ?_
  simp -implicitDefEqProofs only [go_sem]
noncomputable def vlargeB (p : Fn) : Bool := largeB p || decide (60 < p.regs)
theorem vlarge_pure (p : Fn) (hw : p.wf) : Pure Tryz.prog 5 [.agg p.row] (.bool (vlargeB p)) := by
  obtain ⟨h1, h2⟩ := fn_row11 p
  have hps := Fn.row_sub lost p
  have hl := large_call p hw
  have h4 : p.row[4]? = some (.int .i64 p.regs) := by rw [Fn.row_eq]; rfl
  unfold vlargeB
  generalize largeB p = lb at *
  generalize p.regs = rg at *
  generalize p.row = pr at *
  refine Pure.of 0 (CallS.enter scriptinglaw36_large_ok (Nat.le_of_ble_eq_true rfl) (Run.go 100 ?_))
  simp -implicitDefEqProofs only [go_sem, initSl, h1, h2]
  refine CallS.pureF hl (by simp -implicitDefEqProofs only [go_sem, hps]) ?_
  cases lb with
  | true => simp -implicitDefEqProofs only [go_sem, Bool.true_or]
  | false => simp -implicitDefEqProofs only [go_sem, h1, h2, h4, Bool.false_or]
end Go.Proofs.YtppcibdjmnpdhaaGreatDoor
