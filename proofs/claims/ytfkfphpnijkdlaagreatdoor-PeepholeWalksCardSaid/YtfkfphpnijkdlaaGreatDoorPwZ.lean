/-
 What the law's own walk answers. No condition.
-/
import Derived.Test.YtfkfphpnijkdlaaGreatDoorPwP
import Derived.Test.YtfkfphpnijkdlaaGreatDoorOpcM
import Derived.Test.YtfkfphpnijkdlaaGreatDoorFnCk
import Derived.Test.YtfkfphpnijkdlaaGreatDoorOpc3
import Derived.Test.YtfkfphpnijkdlaaGreatDoorPwQ
import Derived.Test.YtfkfphpnijkdlaaGreatDoorPeDL
import Derived.Test.YtfkfphpnijkdlaaGreatDoorPeW
import Derived.Test.YtfkfphpnijkdlaaGreatDoorVerB
set_option linter.unusedVariables false
set_option linter.unusedSimpArgs false
set_option maxRecDepth 100000
set_option maxHeartbeats 0
namespace Go.Proofs.YtfkfphpnijkdlaaGreatDoor
open Go.Abs
attribute [local irreducible] CallS Run
abbrev wN (k : Nat) : Nat := 7 * 10000 + k
-- EV: wN, Ins.v, Ins.row
theorem walk_pure (p : Fn) (hc : p.code.length ≤ 20000) (zs : List Int) (hz : zs.length ≤ 100) (hw : ∀ z ∈ zs, 0 ≤ z ∧ z ≤ 255) : Pure Tryz.prog 7 [.agg p.row, .isl (zs.map fun z => [.int .u8 z])] (.isl ((wkN p.code zs 13000 0 0 []).map Ins.row)) := by
 obtain ⟨h1, h2⟩ := fn_row11 p
 have h5 : p.row[5]? = some (.isl (p.code.map Ins.row)) := by rw [Fn.row_eq]; rfl
 have hlC : (p.code.map Ins.row).length = p.code.length := List.length_map ..
 have hrC : ∀ (k : Nat) x, p.code[k]? = some x → (p.code.map Ins.row)[k]? = some x.row := fun k x h => by rw [List.getElem?_map, h]; rfl
 have hzC : rowsz (p.code.map Ins.row) 5 = True := eq_true (rowsz_of Ins.row 5 (fun _ => rfl) p.code)
 have hlZ : (zs.map fun z => [V.int .u8 z]).length = zs.length := List.length_map ..
 have hrZ : ∀ (k : Nat) z, zs[k]? = some z → (zs.map fun z => [V.int .u8 z])[k]? = some [.int .u8 z] := fun k x h => by rw [List.getElem?_map, h]; rfl
 have hzZ : rowsz (zs.map fun z => [V.int .u8 z]) 1 = True := eq_true (rowsz_of (fun z => [V.int .u8 z]) 1 (fun _ => rfl) zs)
 generalize p.code.map Ins.row = CR at *
 generalize (zs.map fun z => [V.int .u8 z]) = ZR at *
 generalize hwk : wkN p.code zs 13000 0 0 [] = res at *
 generalize p.row = pr at *
 refine Pure.of 0 (CallS.enterK scriptinglaw41_walk_ok (Nat.le_of_ble_eq_true rfl) fun Q hQ => Run.go 100 ?_)
 simp -implicitDefEqProofs only [go_sem, wN, Ins.v, Ins.row, initSl, h1, h2]
 refine Run.roundsK (fun (x : (Nat × Int × Nat) × List Ins × Nat × Nat) => ⟨[(8, .int .i64 x.1.1), (7, .int .i64 x.1.2.2), (6, .int .i64 x.1.2.1), (5, .sl (wN 48) x.2.2.1 0 x.2.1.length), (2, .ptr (wN 2) 0 0 0), (1, .isl ZR)],
  [(wN 48, x.2.2.1, .rows 5 (x.2.1.map Ins.row)), (wN 2, 0, .rows 11 [pr])], x.2.2.2⟩)
  (fun x => (x.1.1 ≤ 13000 ∧ x.1.2.2 ≤ zs.length ∧ x.2.1.length < 60) ∧ res = wkN p.code zs (13000 - x.1.1) x.1.2.1 x.1.2.2 x.2.1) (fun x => 13000 - x.1.1) ((0, 0, 0), [], 1, 2) ?_ ⟨⟨Nat.zero_le _, Nat.zero_le _, by decide⟩, hwk.symm⟩ ?_
 ·exact .turn (fun b => if b = wN 12 then wN 48 else b) ⟨.refl _, .refl _, .refl _, .sl, .refl _, .refl _, trivial⟩ (.at 0 rfl rfl (.refl _) (.at 1 rfl rfl (.refl _) (.of fun e he => by cases he)))
 rintro ⟨⟨i, a, n⟩, out, st, m⟩ ⟨⟨hi, hn, ho⟩, heq⟩ ih
 dsimp only at hi hn ho heq ih ⊢
 refine Run.unf scriptinglaw41_walk_l0_eq (Run.go 100 ?_)
 have hRl : (out.map Ins.row).length = out.length := List.length_map ..
 have stop : ∀ L : List Ins, res = L → ∀ (s2 m2 : Nat) (h : Heap), (wN 48, s2, .rows 5 (L.map Ins.row)) ∈ h → Post Q (.sl (wN 48) s2 0 L.length) h m2 := fun L hL s2 m2 h hm => by
  subst hQ
  refine .to (r2 := .isl (L.map Ins.row)) (h2 := []) (n2 := m2) ?_ (.freeze (b := wN 48) (st := s2) (sz := 5) (rs := L.map Ins.row) hm ⟨Frz.all (by simp), trivial⟩ trivial)
  show frz 0 [] (.isl (L.map Ins.row)) = _
  rw [hL]
  simp only [frz, V.sub, subLL_map, map_sub_rows lost Ins.row L (fun x _ => Ins.row_sub lost x)]
 by_cases c0 : i < 13000
 rotate_left
 ·have e : 13000 - i = 0 := by omega
  rw [e, wkN] at heq
  have q0 : ((i : Int) < 13000) = False := eq_false (by omega)
  simp -implicitDefEqProofs only [go_sem, wN, Ins.v, Ins.row, q0, h1, h2]
  exact stop out heq _ _ _ (by simp)
 have q0 : ((i : Int) < 13000) = True := eq_true (by omega)
 have hsub : 13000 - i = (13000 - (i + 1)) + 1 := by omega
 rw [hsub, wkN] at heq
 by_cases c1 : a < 0 ∨ a ≥ p.code.length
 ·rw [if_pos c1] at heq
  by_cases c2 : 0 ≤ a
  ·have q1 : (0 ≤ a) = True := eq_true c2
   have q2 : (a < (p.code.length : Int)) = False := eq_false (by omega)
   simp -implicitDefEqProofs only [go_sem, wN, Ins.v, Ins.row, q0, q1, q2, h1, h2, h5, hlC]
   exact stop out heq _ _ _ (by simp)
  ·have q1 : (0 ≤ a) = False := eq_false c2
   simp -implicitDefEqProofs only [go_sem, wN, Ins.v, Ins.row, q0, q1, h1, h2, h5, hlC]
   exact stop out heq _ _ _ (by simp)
 rw [if_neg c1] at heq
 obtain ⟨k, rfl⟩ : ∃ k : Nat, a = k := ⟨a.toNat, by omega⟩
 obtain ⟨x, hx⟩ : ∃ x, p.code[k]? = some x := ⟨p.code[k]'(by omega), by simp⟩
 rw [Int.toNat_natCast, hx] at heq
 dsimp only at heq
 have hxr := hrC k x hx
 have q1 : ((0 : Int) ≤ (k : Int)) = True := eq_true (by omega)
 have q2 : ((k : Int) < (p.code.length : Int)) = True := eq_true (by omega)
 have q3 : (k < p.code.length) = True := eq_true (by omega)
 have z1 : ((i + 1 : Nat) : Int) = (i : Int) + 1 := by omega
 have z2 : ((k + 1 : Nat) : Int) = (k : Int) + 1 := by omega
 by_cases c3 : x.op = 14
 ·rw [if_pos c3] at heq
  simp -implicitDefEqProofs only [go_sem, wN, Ins.v, Ins.row, q0, q1, q2, q3, h1, h2, h5, hlC, hzC, hxr, c3, Option.some.injEq, forall_eq']
  exact ⟨by omega, ih _ ((i + 1, x.b, n), out, st, m + 1) ⟨⟨c0, hn, ho⟩, heq⟩ (by dsimp only; omega) (.turn id ⟨.refl _, .refl _, .refl _, .refl _, .refl _, .refl _, trivial⟩ (.at 1 rfl rfl (.refl _) (.at 2 rfl rfl (.refl _) (.of fun e he => by cases he))))⟩
 rw [if_neg c3] at heq
 have tp := target_pure x
 have fp := falls_pure x
 have f1 : (out.length ≤ out.length) = True := eq_true (Nat.le_refl _)
 have f2 : (out.length ≤ 137438953471) = True := eq_true (by omega)
 have f3 : (out.map Ins.row).take out.length = out.map Ins.row := List.take_of_length_le (by omega)
 cases c4 : isJump x.op with
 | true =>
  rw [if_pos c4] at heq
  rw [if_pos c4, c4] at tp
  have fin := fun s a' n' h => ih s ((i + 1, a', n'), out ++ [({ x with b := 0 } : Ins)], m + 1, m + 2) h (by dsimp only; omega)
  have hst := stop (out ++ [({ x with b := 0 } : Ins)])
  rw [List.length_append, List.length_singleton, List.map_append, List.map_cons, List.map_nil, show ({ x with b := 0 } : Ins).row = [.int .i64 x.op, .int .i64 x.a, .int .i64 0, .int .i64 x.c, .int .i64 x.d] from rfl] at hst
  simp only [List.length_append, List.length_singleton, List.map_append, List.map_cons, List.map_nil, show ({ x with b := 0 } : Ins).row = [.int .i64 x.op, .int .i64 x.a, .int .i64 0, .int .i64 x.c, .int .i64 x.d] from rfl] at fin
  generalize out.map Ins.row = OR at *
  by_cases d : zs.length ≤ n
  ·rw [if_pos d] at heq
   have d1 : ((zs.length : Int) ≤ (n : Int)) = True := eq_true (by omega)
   simp -implicitDefEqProofs only [go_sem, wN, Ins.v, Ins.row, q0, q1, q2, q3, h1, h2, h5, hlC, hzC, hxr, c3, Option.some.injEq, forall_eq']
   refine CallS.pureF tp (by simp -implicitDefEqProofs only [go_sem, wN, Ins.v, Ins.row]) ?_
   simp -implicitDefEqProofs only [go_sem, wN, Ins.v, Ins.row, hRl, f1, f2, f3, hlZ, d1, Nat.reduceDiv]
   exact ⟨by omega, hst heq _ _ _ List.mem_cons_self⟩
  ·rw [if_neg d] at heq
   have d1 : ((zs.length : Int) ≤ (n : Int)) = False := eq_false (by omega)
   obtain ⟨z, hzn⟩ : ∃ z, zs[n]? = some z := ⟨zs[n]'(by omega), by simp⟩
   have hzr := hrZ n z hzn
   have hz0 := hw z (List.mem_of_getElem? hzn)
   have d2 : ((0 : Int) ≤ (n : Int)) = True := eq_true (by omega)
   have d3 : (n < zs.length) = True := eq_true (by omega)
   have fp0 : Pure Tryz.prog 16 [.agg [.int .i64 x.op, .int .i64 x.a, .int .i64 0, .int .i64 x.c, .int .i64 x.d]] (.bool (falls x.op)) := falls_pure { x with b := 0 }
   rw [hzn] at heq
   have par : z.tmod 2 = z % 2 := Int.tmod_eq_emod_of_nonneg hz0.1
   have hwg : ∀ a', a' = (if z % 2 = 1 then x.b else (k : Int) + 1) → (res = if falls x.op = false ∨ (out ++ [({ x with b := 0 } : Ins)]).length ≥ 60 then out ++ [({ x with b := 0 } : Ins)] else wkN p.code zs (13000 - (i + 1)) a' (n + 1) (out ++ [({ x with b := 0 } : Ins)])) := fun a' h => by rw [h]; exact heq
   simp -implicitDefEqProofs only [go_sem, wN, Ins.v, Ins.row, q0, q1, q2, q3, h1, h2, h5, hlC, hzC, hxr, c3, Option.some.injEq, forall_eq']
   refine CallS.pureF tp (by simp -implicitDefEqProofs only [go_sem, wN, Ins.v, Ins.row]) ?_
   simp -implicitDefEqProofs only [go_sem, wN, Ins.v, Ins.row, hRl, f1, f2, f3, hlZ, hzZ, hzr, d1, d2, d3, Nat.reduceDiv, Option.some.injEq, forall_eq']
   refine ⟨by omega, by omega, fun g => ⟨by omega, ?_⟩, fun g => ⟨by omega, ?_⟩⟩
   ·have hq := hwg x.b (by rw [if_pos (by omega)])
    refine CallS.pureF fp0 (by simp -implicitDefEqProofs only [go_sem, wN, Ins.v, Ins.row]) ?_
    cases e : falls x.op with
    | false =>
     rw [if_pos (.inl e)] at hq
     simp -implicitDefEqProofs only [go_sem, wN, Ins.v, Ins.row]
     exact hst hq _ _ _ List.mem_cons_self
    | true =>
     by_cases l : out.length + 1 ≥ 60
     ·rw [if_pos (.inr (by simp; omega))] at hq
      have l1 : ((60 : Int) ≤ ((out.length + 1 : Nat) : Int)) = True := eq_true (by omega)
      simp -implicitDefEqProofs only [go_sem, wN, Ins.v, Ins.row, l1]
      exact hst hq _ _ _ List.mem_cons_self
     ·rw [if_neg (by rw [e]; simp; omega)] at hq
      have l1 : ((60 : Int) ≤ ((out.length + 1 : Nat) : Int)) = False := eq_false (by omega)
      simp -implicitDefEqProofs only [go_sem, wN, Ins.v, Ins.row, l1]
      exact ⟨by omega, fin _ _ _ ⟨⟨c0, by omega, by omega⟩, hq⟩ (.turn id ⟨.refl _, .refl _, .refl _, .refl _, .refl _, .refl _, trivial⟩ (.at 0 rfl rfl (.refl _) (.at 2 rfl rfl (.refl _) (.of fun e he => by cases he))))⟩
   ·have hq := hwg ((k : Int) + 1) (by rw [if_neg (by omega)])
    refine CallS.pureF fp0 (by simp -implicitDefEqProofs only [go_sem, wN, Ins.v, Ins.row]) ?_
    cases e : falls x.op with
    | false =>
     rw [if_pos (.inl e)] at hq
     simp -implicitDefEqProofs only [go_sem, wN, Ins.v, Ins.row]
     exact hst hq _ _ _ List.mem_cons_self
    | true =>
     by_cases l : out.length + 1 ≥ 60
     ·rw [if_pos (.inr (by simp; omega))] at hq
      have l1 : ((60 : Int) ≤ ((out.length + 1 : Nat) : Int)) = True := eq_true (by omega)
      simp -implicitDefEqProofs only [go_sem, wN, Ins.v, Ins.row, l1]
      exact hst hq _ _ _ List.mem_cons_self
     ·rw [if_neg (by rw [e]; simp; omega)] at hq
      have l1 : ((60 : Int) ≤ ((out.length + 1 : Nat) : Int)) = False := eq_false (by omega)
      simp -implicitDefEqProofs only [go_sem, wN, Ins.v, Ins.row, l1]
      exact ⟨by omega, fin _ _ _ ⟨⟨c0, by omega, by omega⟩, hq⟩ (.turn id ⟨.refl _, .refl _, .refl _, .refl _, .refl _, .refl _, trivial⟩ (.at 0 rfl rfl (.refl _) (.at 2 rfl rfl (.refl _) (.of fun e he => by cases he))))⟩
 | false =>
  rw [if_neg (by rw [c4]; decide)] at heq
  rw [if_neg (by rw [c4]; decide), c4] at tp
  have fin := fun s a' n' h => ih s ((i + 1, a', n'), out ++ [x], m + 1, m + 2) h (by dsimp only; omega)
  have hst := stop (out ++ [x])
  rw [List.length_append, List.length_singleton, List.map_append, List.map_cons, List.map_nil, show x.row = [.int .i64 x.op, .int .i64 x.a, .int .i64 x.b, .int .i64 x.c, .int .i64 x.d] from rfl] at hst
  simp only [List.length_append, List.length_singleton, List.map_append, List.map_cons, List.map_nil, show x.row = [.int .i64 x.op, .int .i64 x.a, .int .i64 x.b, .int .i64 x.c, .int .i64 x.d] from rfl] at fin
  generalize out.map Ins.row = OR at *
  simp -implicitDefEqProofs only [go_sem, wN, Ins.v, Ins.row, q0, q1, q2, q3, h1, h2, h5, hlC, hzC, hxr, c3, Option.some.injEq, forall_eq']
  refine CallS.pureF tp (by simp -implicitDefEqProofs only [go_sem, wN, Ins.v, Ins.row]) ?_
  simp -implicitDefEqProofs only [go_sem, wN, Ins.v, Ins.row, hRl, f1, f2, f3, Nat.reduceDiv]
  refine ⟨by omega, ?_⟩
  refine CallS.pureF fp (by simp -implicitDefEqProofs only [go_sem, wN, Ins.v, Ins.row]) ?_
  cases e : falls x.op with
  | false =>
   rw [if_pos (.inl e)] at heq
   simp -implicitDefEqProofs only [go_sem, wN, Ins.v, Ins.row]
   exact hst heq _ _ _ List.mem_cons_self
  | true =>
   by_cases l : out.length + 1 ≥ 60
   ·rw [if_pos (.inr (by simp; omega))] at heq
    have l1 : ((60 : Int) ≤ ((out.length + 1 : Nat) : Int)) = True := eq_true (by omega)
    simp -implicitDefEqProofs only [go_sem, wN, Ins.v, Ins.row, l1]
    exact hst heq _ _ _ List.mem_cons_self
   ·rw [if_neg (by rw [e]; simp; omega)] at heq
    have l1 : ((60 : Int) ≤ ((out.length + 1 : Nat) : Int)) = False := eq_false (by omega)
    simp -implicitDefEqProofs only [go_sem, wN, Ins.v, Ins.row, l1]
    exact ⟨by omega, fin _ _ _ ⟨⟨c0, hn, by omega⟩, heq⟩ (.turn id ⟨.refl _, .refl _, .refl _, .refl _, .refl _, .refl _, trivial⟩ (.at 0 rfl rfl (.refl _) (.at 2 rfl rfl (.refl _) (.of fun e he => by cases he))))⟩
theorem wkN_len (code : List Ins) (ch : List Int) : ∀ (f : Nat) (a : Int) (n : Nat) (out : List Ins), out.length < 60 → (wkN code ch f a n out).length ≤ 60
 | 0, _, _, out, h => by rw [wkN]; omega
 | f + 1, a, n, out, h => by
  rw [wkN]
  split
  ·omega
  split
  ·omega
  split
  ·exact wkN_len code ch f _ _ _ h
  split
  ·split
   ·simp; omega
   split
   ·simp; omega
   ·rename_i h2
    exact wkN_len code ch f _ _ _ (by
     rcases Nat.lt_or_ge (out ++ [_]).length 60 with h3 | h3
     ·exact h3
     ·exact (h2 (.inr h3)).elim)
  split
  ·simp; omega
  ·rename_i h2
   exact wkN_len code ch f _ _ _ (by
    rcases Nat.lt_or_ge (out ++ [_]).length 60 with h3 | h3
    ·exact h3
    ·exact (h2 (.inr h3)).elim)
theorem jumps_ofF (p q : Fn) (h : Abs.Pure Tryz.prog 17 [.agg p.row, .fn 18 []] (.agg q.row)) : Abs.Pure Tryz.prog 8 [.agg p.row] (.agg q.row) := by
 have hs := Fn.row_sub lost p
 have hs2 := Fn.row_sub lost q
 obtain ⟨o1, o2⟩ := fn_row11 p
 obtain ⟨o3, o4⟩ := fn_row11 q
 refine Pure.of 0 (CallS.enter peephole_Jumps_ok (Nat.le_of_ble_eq_true rfl) (Run.go 100 ?_))
 generalize p.row = r at *
 generalize q.row = r2 at *
 simp -implicitDefEqProofs only [go_sem, initSl, o1, o2]
 refine CallS.pureF h (by simp -implicitDefEqProofs only [go_sem, hs]) ?_
 simp -implicitDefEqProofs only [go_sem, o1, o2, o3, o4, Nat.reduceDiv]
 exact hs2
theorem depth_le (p : Fn) : p.depth ≤ p.tot := by
 have := Fn.depth_each p
 have := (tot_each p).1
 omega
theorem walks_law (p : Fn) (hp : p.bd) (zs : List Int) (hz : zs.length ≤ reachBytes) (hw : ∀ z ∈ zs, 0 ≤ z ∧ z ≤ 255) : Pure Tryz.prog 3 [.agg p.row, .isl (zs.map fun z => [.int .u8 z])] (.bool true) := by
 have hl := large_pureP p hp
 have aw := awake_pure
 obtain ⟨h1, h2⟩ := fn_row11 p
 have hs := Fn.row_sub lost p
 have hlZ : (zs.map fun z => [V.int .u8 z]).length = zs.length := List.length_map ..
 have hsZ : (zs.map fun z => [V.int .u8 z]).map (fun r => r.map (V.sub lost)) = zs.map fun z => [V.int .u8 z] := by simp [V.sub]
 refine Pure.of 0 (CallS.enter scriptinglaw41_PeepholeWalks_ok (Nat.le_of_ble_eq_true rfl) (Run.go 100 ?_))
 cases hb : p.lgB with
 | true =>
  rw [hb] at hl
  generalize p.row = pr at *
  simp -implicitDefEqProofs only [go_sem, initSl, h1, h2]
  refine CallS.pureF hl (by simp -implicitDefEqProofs only [go_sem, hs]) ?_
  simp -implicitDefEqProofs only [go_sem]
  refine CallS.pureF aw rfl ?_
  simp -implicitDefEqProofs only [go_sem]
 | false =>
 rw [hb] at hl
 by_cases c0 : zs.length > 100
 ·have c1 : ((100 : Int) < (zs.length : Int)) = True := eq_true (by omega)
  generalize p.row = pr at *
  generalize (zs.map fun z => [V.int .u8 z]) = ZR at *
  simp -implicitDefEqProofs only [go_sem, initSl, h1, h2]
  refine CallS.pureF hl (by simp -implicitDefEqProofs only [go_sem, hs]) ?_
  simp -implicitDefEqProofs only [go_sem, hlZ, c1]
  refine CallS.pureF aw rfl ?_
  simp -implicitDefEqProofs only [go_sem]
 have c1 : ((100 : Int) < (zs.length : Int)) = False := eq_false (by omega)
 have ht := lg_tot hb
 have hte := tot_each p
 have hck := vcheck_pure p hp (by have := depth_le p; omega)
 by_cases hv : verE p = 0
 rotate_left
 ·have hc0 := eq_false hv
  generalize verE p = ce at *
  generalize p.row = pr at *
  generalize (zs.map fun z => [V.int .u8 z]) = ZR at *
  simp -implicitDefEqProofs only [go_sem, initSl, h1, h2]
  refine CallS.pureF hl (by simp -implicitDefEqProofs only [go_sem, hs]) ?_
  simp -implicitDefEqProofs only [go_sem, hlZ, c1, h1, h2]
  refine CallS.pureF hck (by simp -implicitDefEqProofs only [go_sem, hs]) ?_
  simp -implicitDefEqProofs only [go_sem, hc0]
  refine CallS.pureF aw rfl ?_
  simp -implicitDefEqProofs only [go_sem]
 rw [hv] at hck
 have hc := ((verE_iff p).1 hv).1
 have hg : GoodF p := ⟨hp, ((chkE_iff p).1 hc).2, fun q hq => by have := hte.2 q hq; omega⟩
 have hn := hg.few p p.self_mem
 have jj := jumps_ofF p (eachF jumpsF p) (each_pure _ rfl jumpsF GoodF (fun p h q hq => h.child hq) GoodF.hb (fun p h => h.jumps1) p hg)
 have dd := dead_of p (eachF deadF p) (each_pure _ rfl deadF GoodF (fun p h q hq => h.child hq) GoodF.hb (fun p h => h.dead) p hg)
 obtain ⟨e1, e2⟩ := ver_walks hg hv zs
 have w0 := walk_pure p (by omega) zs (by omega) hw
 have w1 := walk_pure (eachF jumpsF p) (by rw [hg.eachC]; show (p.code.map _).length ≤ _; rw [List.length_map]; omega) zs (by omega) hw
 have w2 := walk_pure (eachF deadF p) (by
  rw [hg.eachC]
  show ((keepN _ p.code p.code.length).map _).length ≤ _
  rw [List.length_map, keepN_len _ _ _ (Nat.le_refl _)]
  exact Nat.le_trans (numB_le _ _) (by omega)) zs (by omega) hw
 rw [e1] at w1
 rw [e2] at w2
 have hlw := wkN_len p.code zs 13000 0 0 [] (by decide)
 generalize wkN p.code zs 13000 0 0 [] = W at *
 have s1 := Fn.row_sub lost (eachF jumpsF p)
 have s2 := Fn.row_sub lost (eachF deadF p)
 obtain ⟨o1, o2⟩ := fn_row11 (eachF jumpsF p)
 obtain ⟨o3, o4⟩ := fn_row11 (eachF deadF p)
 have hlW : (W.map Ins.row).length = W.length := List.length_map ..
 have hrW : ∀ (k : Nat) x, W[k]? = some x → (W.map Ins.row)[k]? = some [.int .i64 x.op, .int .i64 x.a, .int .i64 x.b, .int .i64 x.c, .int .i64 x.d] := fun k x h => by rw [List.getElem?_map, h]; rfl
 have hzW : rowsz (W.map Ins.row) 5 = True := eq_true (rowsz_of Ins.row 5 (fun _ => rfl) W)
 generalize W.map Ins.row = WR at *
 generalize (eachF jumpsF p).row = d1 at *
 generalize (eachF deadF p).row = d2 at *
 generalize p.row = pr at *
 generalize (zs.map fun z => [V.int .u8 z]) = ZR at *
 simp -implicitDefEqProofs only [go_sem, initSl, h1, h2]
 refine CallS.pureF hl (by simp -implicitDefEqProofs only [go_sem, hs]) ?_
 simp -implicitDefEqProofs only [go_sem, hlZ, c1, h1, h2]
 refine CallS.pureF hck (by simp -implicitDefEqProofs only [go_sem, hs]) ?_
 simp -implicitDefEqProofs only [go_sem, h1, h2]
 refine ⟨?_, ?_, ?_, ?_, ?_, ?_, ?_, ?_⟩
 all_goals
  refine CallS.pureF w0 (by simp -implicitDefEqProofs only [go_sem, hs, hsZ]) ?_
  simp -implicitDefEqProofs only [go_sem, h1, h2, o1, o2, o3, o4]
  (first | refine CallS.pureF jj (by (simp -implicitDefEqProofs only [go_sem, hs]; done)) ?_ | refine CallS.pureF dd (by (simp -implicitDefEqProofs only [go_sem, hs]; done)) ?_)
  simp -implicitDefEqProofs only [go_sem, h1, h2, o1, o2, o3, o4]
  (first | refine CallS.pureF jj (by (simp -implicitDefEqProofs only [go_sem, hs]; done)) ?_ | refine CallS.pureF dd (by (simp -implicitDefEqProofs only [go_sem, hs]; done)) ?_ | refine CallS.pureF w1 (by (simp -implicitDefEqProofs only [go_sem, s1, hsZ]; done)) ?_ | refine CallS.pureF w2 (by (simp -implicitDefEqProofs only [go_sem, s2, hsZ]; done)) ?_)
  simp -implicitDefEqProofs only [go_sem, h1, h2, o1, o2, o3, o4]
  (first | refine CallS.pureF jj (by (simp -implicitDefEqProofs only [go_sem, hs]; done)) ?_ | refine CallS.pureF dd (by (simp -implicitDefEqProofs only [go_sem, hs]; done)) ?_ | refine CallS.pureF w1 (by (simp -implicitDefEqProofs only [go_sem, s1, hsZ]; done)) ?_ | refine CallS.pureF w2 (by (simp -implicitDefEqProofs only [go_sem, s2, hsZ]; done)) ?_)
  simp -implicitDefEqProofs only [go_sem, h1, h2, o1, o2, o3, o4]
  (first | refine CallS.pureF jj (by (simp -implicitDefEqProofs only [go_sem, hs]; done)) ?_ | refine CallS.pureF dd (by (simp -implicitDefEqProofs only [go_sem, hs]; done)) ?_ | refine CallS.pureF w1 (by (simp -implicitDefEqProofs only [go_sem, s1, hsZ]; done)) ?_ | refine CallS.pureF w2 (by (simp -implicitDefEqProofs only [go_sem, s2, hsZ]; done)) ?_)
  simp -implicitDefEqProofs only [go_sem, h1, h2, o1, o2, o3, o4, hlW]
  refine Run.rounds (fun (k : Nat) => ⟨[(47, .int .i64 k), (46, .int .i64 W.length), (7, .isl WR), (6, .isl WR), (5, .isl WR)], [], 1⟩) (fun k => k ≤ W.length) (fun k => W.length - k) 0 (by first | (simp -implicitDefEqProofs only [go_sem]; done) | (simp -implicitDefEqProofs only [go_sem]; simp)) (Nat.zero_le _) ?_
  intro k hk ih
  refine Run.unf scriptinglaw41_PeepholeWalks_l0_eq (Run.go 100 ?_)
  by_cases c : (k : Int) < W.length
  ·obtain ⟨x, hx⟩ : ∃ x, W[k]? = some x := ⟨W[k]'(by omega), by simp⟩
   have hxr := hrW k x hx
   have k0 : ((0 : Int) ≤ (k : Int)) = True := eq_true (by omega)
   have k2 : (k < W.length) = True := eq_true (by omega)
   simp -implicitDefEqProofs only [go_sem, c, k0, k2, hlW, hzW, hxr, Option.some.injEq, forall_eq']
   exact ⟨by omega, ih _ (k + 1) (by omega) (by omega) (by first | (simp -implicitDefEqProofs only [go_sem]; done) | (simp -implicitDefEqProofs only [go_sem]; simp))⟩
  ·simp -implicitDefEqProofs only [go_sem, c]
   refine CallS.pureF aw rfl ?_
   simp -implicitDefEqProofs only [go_sem]
theorem peepholeWalks_args (cs : List V) (w : Typed Tryz.prog 29 cs) (zs : List Int) (lz : zs.length ≤ reachBytes) (wz : ∀ z ∈ zs, (Lit.int .u8 z).wf = true) : Pure Tryz.prog 3 [.agg cs, .isl (zs.map fun z => [.int .u8 z])] (.bool true) := by
 obtain ⟨p, rfl, _, hb⟩ := fn_argsB w
 exact walks_law p hb zs lz fun z hz => wf_u8 (wz z hz)
end Go.Proofs.YtfkfphpnijkdlaaGreatDoor
