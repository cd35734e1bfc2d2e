/-
 The first violation of a function, and of those within it. No condition.
-/
import Derived.Test.YtoanghfeednogaaGreatDoorVerP4
import Derived.Test.YtoanghfeednogaaGreatDoorFnMb
set_option linter.unusedVariables false
set_option linter.unusedSimpArgs false
set_option maxRecDepth 100000
set_option maxHeartbeats 0
namespace Go.Proofs.YtoanghfeednogaaGreatDoor
open Go.Abs
attribute [local irreducible] A2 Run
-- EV: Ins.v, Ins.row
attribute [local go_sem] Ins.v Ins.row
theorem C1d {p : Fn} {k : Nat} (hk : k < p.code.length) (h : A5s p (B1O p) k = true) (hno : ∀ j, j < k → A5s p (B1O p) j = false) : A0L p = k := by
 have : (List.range p.code.length).find? (A5s p (B1O p)) = some k := by
  rw [List.find?_range_eq_some]
  exact ⟨h, List.mem_range.2 hk, fun j hj => by rw [hno j hj]; rfl⟩
 unfold A0L
 rw [this]
theorem C2i (p : Fn) (hs : Sound p) (n : Nat) :
  A2 Tryz.prog 75 [.agg p.row, .isl ((D3 p.code).map w5)] [] n fun r h' n' => ∃ st L, r = .mp (75 * 10000 + 14) st ∧ h' = [((75 * 10000 + 14), st, .map (I7 L (Q9 p.regs.toNat (B1O p))))] ∧ Kn p.regs.toNat p.code.length L (B1O p) ∧ A5t p.regs.toNat p.code p.params (B1O p) := by
 obtain ⟨h1, h2⟩ := A9 p
 have hr := hs.regs
 have hp := hs.params
 have hc := hs.code
 exact B7I p.regs.toNat p.code p.params p.row h1 h2 (by rw [Fn.row_eq]; rfl) (by rw [Int.toNat_of_nonneg hr.1, Fn.row_eq]; rfl) (by rw [Fn.row_eq]; rfl) (fun d h => (F9 (d := d) (h := h)).elim fun φ e => by rw [e]; exact Fn.row_sub φ p)
  (by omega) hs.code0 (by omega) hp.1 (by omega) hs.fit n
theorem C2Z (p : Fn) (hs : Sound p) : Pure Tryz.prog 76 [.agg p.row] (.isl ((D3 p.code).map w5)) := by
 obtain ⟨h1, h2⟩ := A9 p
 have hc := hs.code
 exact B8k p.code p.row h1 h2 (by rw [Fn.row_eq]; rfl) (Fn.row_sub C0 p) (by omega) (C6G p (by omega))
theorem B8s (p : Fn) (hs : Sound p) : Pure Tryz.prog 62 [.agg p.row] (.int .i64 (A0L p)) := by
 obtain ⟨h1, h2⟩ := A9 p
 have hE := C2Z p hs
 have hS := C2i p hs
 have hV := fun L hK hI a ha n st => B3K p hs (B1O p) L hK hI a ha _ st n rfl
 have hF := fun k hk h hno => C1d (p := p) (k := k) hk h hno
 have hF0 := B6I (p := p)
 have hps := Fn.row_sub C0 p
 have h5 : p.row[5]? = some (.isl (p.code.map Ins.row)) := by rw [Fn.row_eq]; rfl
 have l5 : (p.code.map Ins.row).length = p.code.length := List.length_map ..
 have hcl := hs.code
 generalize A0L p = fF at *
 generalize A5s p (B1O p) = vF at *
 generalize p.code.map Ins.row = CR at *
 generalize (D3 p.code).map w5 = ER at *
 generalize p.row = pr at *
 refine Pure.of 0 (A2.enter A5j (Nat.le_of_ble_eq_true rfl) (Run.go 100 ?_))
 simp -implicitDefEqProofs only [go_sem, A5, h1, h2]
 refine ⟨?_, ?_⟩
 all_goals
  refine A2.pureF hE (by simp -implicitDefEqProofs only [go_sem, hps]) ?_
  simp -implicitDefEqProofs only [go_sem, h1, h2]
  refine A2.at [] [0] (hS _) rfl rfl ?_
  rintro r h' n1 hn1 ⟨st, L, rfl, rfl, hK, hI⟩
  have hV := fun a ha n => hV L hK hI a ha n st
  generalize hes : I7 L (Q9 p.regs.toNat (B1O p)) = es at *
  simp -implicitDefEqProofs only [go_sem, h5, l5]
  refine Run.keep [12, 11, 3, 1] ?_
  refine Run.roundsK (fun (x : Nat × Nat) => ⟨[(12, .int .i64 x.1), (11, .int .i64 p.code.length), (3, .mp (75 * 10000 + 14) st), (1, .ptr (62 * 10000 + 1) 0 0 0)], [((75 * 10000 + 14), st, .map es), ((62 * 10000 + 1), 0, .rows 11 [pr])], x.2⟩)
   (fun x => x.1 ≤ p.code.length ∧ ∀ j, j < x.1 → vF j = false) (fun x => p.code.length - x.1) (0, n1) (B7.wk (B7.of (by simp -implicitDefEqProofs only [go_sem]) (fun e he => he) (Nat.le_refl _))) ⟨Nat.zero_le _, fun j hj => absurd hj (Nat.not_lt_zero _)⟩ ?_
  rintro ⟨k, m⟩ ⟨hk, hno⟩ ih
  simp only at hk hno ih ⊢
  refine Run.unf A8J (Run.go 100 ?_)
  by_cases hlt : k < p.code.length
  ·have q0 : ((k : Int) < (p.code.length : Int)) = True := eq_true (by omega)
   have hzk : ((k + 1 : Nat) : Int) = (k : Int) + 1 := by omega
   simp -implicitDefEqProofs only [go_sem, q0, h1, h2]
   refine A2.at [0] [1] (hV k hlt _) rfl rfl ?_
   rintro r h' n2 hn2 ⟨rfl, rfl⟩
   cases hv : vF k with
   | true =>
    simp -implicitDefEqProofs only [go_sem, hF k hlt hv hno]
   | false =>
    simp -implicitDefEqProofs only [go_sem]
    refine ⟨by omega, ih _ (k + 1, n2) ⟨by simp only; omega, fun j hj => ?_⟩ (by simp only; omega) (B7.wk (B7.of (by simp -implicitDefEqProofs only [go_sem, hzk]) (fun e he => he) (Nat.le_refl _)))⟩
    by_cases c : j = k
    ·subst c; exact hv
    ·exact hno j (by simp only at hj; omega)
  ·have e : k = p.code.length := by omega
   subst e
   have hf : fF = -1 := hF0.2 hno
   simp -implicitDefEqProofs only [go_sem, Int.lt_irrefl, hf]
def srV : Option (List Int × Int) → V
 | none => .tup [.isl [], .int .i64 0, .bool false]
 | some x => .tup [.isl (x.1.map zrw), .int .i64 x.2, .bool true]
theorem B7w (p : Fn) (hp : p.bd) (hd : p.depth ≤ 1000000) (hk : Y5 p = 0) : ∀ (w : List Int), w.length + p.depth ≤ 1000 → Pure Tryz.prog 49 [.agg p.row, .isl (w.map zrw)] (srV (p.srch w)) := by
 induction p using Fn.ind with
 | h p ih' =>
  intro w hw
  have hde := Fn.depth_eq p
  have ih : ∀ q ∈ p.protos, ∀ k : Nat, Pure Tryz.prog 49 [.agg q.row, .isl ((w ++ [(k : Int)]).map zrw)] (srV (q.srch (w ++ [(k : Int)]))) := fun q hq k => by
   have h1 := Fn.depths_mem hq
   exact ih' q hq (hp.child hq) (by omega) (B6d hk (Fn.child_mem (Fn.self_mem p) hq)) _ (by simp only [List.length_append, List.length_singleton]; omega)
  clear ih'
  obtain ⟨h1, h2⟩ := A9 p
  have hps := Fn.row_sub C0 p
  have hs : Sound p := .of hk
  have hf := B8s p hs
  have hqz := hp.self.protos
  have h8 : p.row[8]? = some (.isl (p.protos.map Fn.row)) := by rw [Fn.row_eq]; rfl
  have l8 : (p.protos.map Fn.row).length = p.protos.length := List.length_map ..
  have z8 := eq_true (B0 Fn.row 11 Fn.row_len p.protos)
  have r8 : ∀ (k : Nat) x, p.protos[k]? = some x → (p.protos.map Fn.row)[k]? = some (Fn.row x) := fun k x hk => by rw [List.getElem?_map, hk]; rfl
  have hsr := Fn.srch_eq p w
  have hwl : (w.map zrw).length = w.length := List.length_map ..
  have hwz := O7 w
  have hwt : (w.map zrw).take w.length = w.map zrw := List.take_of_length_le (by omega)
  have hws := fun d h => (F9 (d := d) (h := h)).elim fun φ e => show (w.map zrw).map (fun r => r.map (frz d h)) = w.map zrw by rw [e]; exact A0z φ _
  have hws2 := A0z C0 w
  have hwk : ∀ k : Nat, (w ++ [(k : Int)]).map zrw = w.map zrw ++ [[.int .i64 (k : Int)]] := fun k => by simp [zrw]
  have hcl := C2J w (by omega)
  generalize A0L p = fF at *
  generalize p.srch w = sr at *
  generalize hW : w.map zrw = W at *
  generalize p.protos.map Fn.row = PR at *
  generalize p.row = pr at *
  refine Pure.of 0 (A2.enter A3O (Nat.le_of_ble_eq_true rfl) (Run.go 100 ?_))
  simp -implicitDefEqProofs only [go_sem, A5, h1, h2]
  refine A2.pureF hf (by simp -implicitDefEqProofs only [go_sem, hps]) ?_
  by_cases hf0 : 0 ≤ fF
  ·rw [if_pos hf0] at hsr
   subst hsr
   simp -implicitDefEqProofs only [go_sem, hf0]
   rw [hws, ← hW]; rfl
  rw [if_neg hf0] at hsr
  simp -implicitDefEqProofs only [go_sem, hf0, h8, l8, h1, h2]
  refine Run.keep [22, 21, 20, 2, 1] ?_
  refine Run.roundsK (fun (x : Nat × Nat) => ⟨[(22, .int .i64 x.1), (21, .int .i64 p.protos.length), (20, .isl PR), (2, .ptr (49 * 10000 + 2) 0 0 0), (1, .isl W)], [((49 * 10000 + 2), 0, .rows 11 [pr])], x.2⟩)
   (fun x => x.1 ≤ p.protos.length ∧ sr = Fn.srchs (p.protos.drop x.1) x.1 w) (fun x => p.protos.length - x.1) (0, 1) (B7.wk (B7.of (by simp -implicitDefEqProofs only [go_sem]) (fun e he => he) (Nat.le_refl _))) ⟨Nat.zero_le _, hsr⟩ ?_
  rintro ⟨k, m⟩ ⟨hkl, hsk⟩ ihl
  simp only at hkl hsk ihl ⊢
  refine Run.unf A7d (Run.go 100 ?_)
  by_cases hlt : k < p.protos.length
  ·have q0 : ((k : Int) < (p.protos.length : Int)) = True := eq_true (by omega)
   have q1 : ((0 : Int) ≤ (k : Int)) = True := eq_true (by omega)
   have hzk : ((k + 1 : Nat) : Int) = (k : Int) + 1 := by omega
   obtain ⟨q, hx⟩ : ∃ x, p.protos[k]? = some x := ⟨p.protos[k], by simp [hlt]⟩
   have hxr := r8 k q hx
   have hq := ih q (List.mem_of_getElem? hx) k
   obtain ⟨g1, g2⟩ := A9 q
   have hqs := Fn.row_sub C0 q
   have hdr : p.protos.drop k = q :: p.protos.drop (k + 1) := by
    obtain ⟨hk', e⟩ := List.getElem_of_getElem? hx
    rw [← e, List.getElem_cons_drop]
   rw [hdr, Fn.srchs] at hsk
   rw [hwk] at hq
   have hws3 : (W ++ [[V.int .i64 (k : Int)]]).map (fun r => r.map (V.sub C0)) = W ++ [[V.int .i64 (k : Int)]] := by rw [List.map_append, hws2]; rfl
   have hwl2 : (W ++ [[V.int .i64 (k : Int)]]).length = w.length + 1 := by rw [List.length_append, hwl]; rfl
   generalize q.row = qr at *
   simp -implicitDefEqProofs only [go_sem, q0, q1, l8, z8, g1, g2, hxr, hlt, Option.some.injEq, forall_eq']
   refine ⟨?_, ?_, ?_⟩
   all_goals
    refine A2.at [] [0, 1] (hcl _) rfl rfl ?_
    rintro r h' n2 hn2 ⟨st, rfl, rfl⟩
    simp -implicitDefEqProofs only [go_sem, hwl, hwz, hwt, g1, g2]
    refine ⟨by omega, ?_⟩
    refine A2.pre (xs' := [.agg qr, .isl (W ++ [[V.int .i64 (k : Int)]])]) (h' := [((49 * 10000 + 9), m, .rows 11 [qr]), ((49 * 10000 + 2), 0, .rows 11 [pr])]) (n' := n2 + 1) (.freeze (b := (63 * 10000 + 5)) (st := n2) (sz := 1) (rs := W ++ [[V.int .i64 (k : Int)]]) List.mem_cons_self ⟨Frz.all hwl2.symm, .of (.refl _), trivial⟩ (.at 1 rfl (by decide) (.of (.refl _)) (.at 2 rfl (by decide) (.of (.refl _)) trivial))) rfl ?_
    refine A2.pureF hq (by simp -implicitDefEqProofs only [go_sem, hqs, hws3]) ?_
    cases hsq : q.srch (w ++ [(k : Int)]) with
    | none =>
     rw [hsq] at hsk
     simp only [srV]
     simp -implicitDefEqProofs only [go_sem]
     refine ⟨by omega, ihl _ (k + 1, n2 + 1) ⟨by simp only; omega, hsk⟩ (by simp only; omega) (B7.wk (B7.of (by simp -implicitDefEqProofs only [go_sem, hzk]) (fun e he => List.mem_cons_of_mem _ he) (Nat.le_refl _)))⟩
    | some x =>
     rw [hsq] at hsk
     subst hsk
     have hxs := fun d h => (F9 (d := d) (h := h)).elim fun φ e => show (x.1.map zrw).map (fun r => r.map (frz d h)) = x.1.map zrw by rw [e]; exact A0z φ _
     simp only [srV]
     simp -implicitDefEqProofs only [go_sem, hxs]
  ·have e : k = p.protos.length := by omega
   subst e
   rw [List.drop_length, Fn.srchs] at hsk
   subst hsk
   simp -implicitDefEqProofs only [go_sem, Int.lt_irrefl]
   rfl
theorem B5k (p : Fn) (hp : p.bd) (hd : p.depth ≤ 900) : Pure Tryz.prog 29 [.agg p.row]
  (if Y5 p ≠ 0 then .tup [.isl [], .int .i64 0, .int .i64 (Y5 p)] else match p.srch [] with | none => .tup [.isl [], .int .i64 0, .int .i64 0] | some x => .tup [.isl (x.1.map zrw), .int .i64 x.2, .int .i64 21]) := by
 obtain ⟨h1, h2⟩ := A9 p
 have hps := Fn.row_sub C0 p
 have hc := A1P p hp (by omega)
 have hsr := fun hk => B7w p hp (by omega) hk [] (by simp only [List.length_nil]; omega)
 generalize p.srch [] = sr at *
 generalize Y5 p = z at *
 generalize p.row = pr at *
 refine Pure.of 0 (A2.enter j4 (Nat.le_of_ble_eq_true rfl) (Run.go 100 ?_))
 simp -implicitDefEqProofs only [go_sem, A5, h1, h2]
 refine A2.pureF hc (by simp -implicitDefEqProofs only [go_sem, hps]) ?_
 by_cases hz : z = 0
 case neg =>
  rw [if_pos hz]
  simp -implicitDefEqProofs only [go_sem, hz]
 rw [if_neg (fun h => h hz)]
 have hq := hsr hz
 simp -implicitDefEqProofs only [go_sem, hz, h1, h2]
 refine A2.pre (xs' := [.agg pr, .isl []]) (h' := [((29 * 10000 + 1), 0, .rows 11 [pr])]) (n' := 1) (.turn id ⟨E6.nilI, .refl _, trivial⟩ (.at 0 rfl rfl (.refl _) trivial)) rfl ?_
 refine A2.pureF hq (by simp -implicitDefEqProofs only [go_sem, hps, List.map_nil]) ?_
 cases sr with
 | none =>
  simp only [srV]
  simp -implicitDefEqProofs only [go_sem]
 | some x =>
  have hxs := fun d h => (F9 (d := d) (h := h)).elim fun φ e => show (x.1.map zrw).map (fun r => r.map (frz d h)) = x.1.map zrw by rw [e]; exact A0z φ _
  simp only [srV]
  simp -implicitDefEqProofs only [go_sem, hxs]
theorem B7O (p : Fn) (hp : p.bd) (hd : p.depth ≤ 900) : Pure Tryz.prog 13 [.agg p.row] (.int .i64 (B5S p)) := by
 obtain ⟨h1, h2⟩ := A9 p
 have hps := Fn.row_sub C0 p
 have hc := B5k p hp hd
 unfold B5S
 generalize p.srch [] = sr at *
 generalize Y5 p = z at *
 generalize p.row = pr at *
 by_cases hz : z = 0
 case neg =>
  rw [if_pos hz] at hc ⊢
  refine Pure.of 0 (A2.enter W4 (Nat.le_of_ble_eq_true rfl) (Run.go 100 ?_))
  simp -implicitDefEqProofs only [go_sem, A5, h1, h2]
  refine A2.pureF hc (by simp -implicitDefEqProofs only [go_sem, hps]) ?_
  simp -implicitDefEqProofs only [go_sem]
 rw [if_neg (fun h => h hz)] at hc ⊢
 cases sr with
 | none =>
  rw [if_pos rfl]
  refine Pure.of 0 (A2.enter W4 (Nat.le_of_ble_eq_true rfl) (Run.go 100 ?_))
  simp -implicitDefEqProofs only [go_sem, A5, h1, h2]
  refine A2.pureF hc (by simp -implicitDefEqProofs only [go_sem, hps]) ?_
  simp -implicitDefEqProofs only [go_sem]
 | some x =>
  rw [if_neg (fun h => by cases h)]
  simp only at hc
  refine Pure.of 0 (A2.enter W4 (Nat.le_of_ble_eq_true rfl) (Run.go 100 ?_))
  simp -implicitDefEqProofs only [go_sem, A5, h1, h2]
  refine A2.pureF hc (by simp -implicitDefEqProofs only [go_sem, hps]) ?_
  simp -implicitDefEqProofs only [go_sem]
end Go.Proofs.YtoanghfeednogaaGreatDoor
