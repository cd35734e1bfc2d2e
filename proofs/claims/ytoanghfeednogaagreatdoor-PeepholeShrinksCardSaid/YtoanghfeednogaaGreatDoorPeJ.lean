/-
 What peephole.final answers. No condition.
-/
import Derived.Test.YtoanghfeednogaaGreatDoorPeTR
import Derived.Test.YtoanghfeednogaaGreatDoorOpcM
import Derived.Test.YtoanghfeednogaaGreatDoorFnCk
import Derived.Test.YtoanghfeednogaaGreatDoorUtl
set_option linter.unusedVariables false
set_option linter.unusedSimpArgs false
set_option maxRecDepth 100000
set_option maxHeartbeats 0
namespace Go.Proofs.YtoanghfeednogaaGreatDoor
open Go.Abs
attribute [local irreducible] A2 Run
-- EV: Ins.v, Ins.row
attribute [local go_sem] Ins.v Ins.row
def V3 (S : Int → Bool) (z : Int) : Int → Bool := fun k => S k || decide (k = z)
def unZ (S : Int → Bool) : Nat → Nat
 | 0 => 0
 | n + 1 => unZ S n + (if S n = true then 0 else 1)
theorem C0h {S : Int → Bool} {z : Int} : ∀ {n : Nat}, (n : Int) ≤ z → unZ (V3 S z) n = unZ S n
 | 0, _ => rfl
 | n + 1, h => by
  rw [unZ, unZ, C0h (by omega)]
  have : V3 S z n = S n := by
   unfold V3
   rw [decide_eq_false (by omega), Bool.or_false]
  rw [this]
theorem B0U {S : Int → Bool} {z : Nat} (hs : S z = false) : ∀ {n : Nat}, z < n → unZ (V3 S z) n + 1 = unZ S n
 | 0, h => absurd h (Nat.not_lt_zero z)
 | n + 1, h => by
  rw [unZ, unZ]
  rcases Nat.lt_or_ge z n with h1 | h1
  ·have ih := B0U hs h1
   have : V3 S z n = S n := by
    unfold V3
    rw [decide_eq_false (by omega), Bool.or_false]
   rw [this]
   omega
  ·obtain rfl : z = n := by omega
   rw [C0h (Int.le_refl _)]
   have h2 : V3 S (z : Int) z = true := by unfold V3; simp
   rw [h2, hs]
   simp
def chZ (code : List Ins) : Nat → (Int → Bool) → Nat → Int
 | 0, _, a => a
 | f + 1, S, a => match code[a]? with
  | some i => if i.op = 14 then (if V3 S a i.b = true then (a : Int) else chZ code f (V3 S a) i.b.toNat) else a
  | none => a
def C1c (code : List Ins) (a : Nat) : Int := chZ code (unZ (fun _ => false) code.length) (fun _ => false) a
def InJ (code : List Ins) : Prop := ∀ i ∈ code, J1 i.op = true → 0 ≤ i.b ∧ i.b < code.length
theorem B8r (p : Fn) (hc : p.code.length ≤ 20000) (hj : InJ p.code) (a : Nat) (ha : a < p.code.length) : Pure Tryz.prog 18 [.agg p.row, .int .i64 a] (.int .i64 (C1c p.code a)) := by
 obtain ⟨h1, h2⟩ := A9 p
 have h5 : p.row[5]? = some (.isl (p.code.map Ins.row)) := by rw [Fn.row_eq]; rfl
 have hlC : (p.code.map Ins.row).length = p.code.length := List.length_map ..
 have hrC : ∀ (k : Nat) x, p.code[k]? = some x → (p.code.map Ins.row)[k]? = some x.row := fun k x h => by rw [List.getElem?_map, h]; rfl
 have hzC : B6 (p.code.map Ins.row) 5 = True := eq_true (B0 Ins.row 5 (fun _ => rfl) p.code)
 generalize p.code.map Ins.row = CR at *
 generalize p.row = pr at *
 refine Pure.of 0 (A2.enter A1V (Nat.le_of_ble_eq_true rfl) (Run.go 100 ?_))
 simp -implicitDefEqProofs only [go_sem, A5, h1, h2]
 refine Run.rounds (fun (x : Nat × List (V × V) × Nat × (Int → Bool)) => ⟨[(5, .mp (18 * 10000 + 7) 1), (2, .ptr (18 * 10000 + 2) 0 0 0), (1, .int .i64 x.1)], [((18 * 10000 + 7), 1, .map x.2.1), ((18 * 10000 + 2), 0, .rows 11 [pr])], x.2.2.1⟩)
  (fun x => (MSet x.2.1 x.2.2.2 ∧ x.1 < p.code.length) ∧ x.2.2.2 (x.1 : Int) = false ∧ C1c p.code a = chZ p.code (unZ x.2.2.2 p.code.length) x.2.2.2 x.1) (fun x => unZ x.2.2.2 p.code.length) (a, [], 2, fun _ => false) (by simp -implicitDefEqProofs only [go_sem]) ⟨⟨.nil, ha⟩, rfl, rfl⟩ ?_
 rintro ⟨k, es, m, S⟩ ⟨⟨hS, hk⟩, hs, hf⟩ ih
 dsimp only at hS hk hs hf ih ⊢
 refine Run.unf A6f (Run.go 100 ?_)
 obtain ⟨i, hi⟩ : ∃ i, p.code[k]? = some i := ⟨p.code[k]'(by omega), by simp⟩
 have hir := hrC k i hi
 have hkk := eq_true (hS.keys.ok (k : Int))
 have hP := hS.put (k : Int)
 have k0 : ((0 : Int) ≤ (k : Int)) = True := eq_true (by omega)
 have k1 : (k < p.code.length) = True := eq_true hk
 have k2 : ((k : Int) < (p.code.length : Int)) = True := eq_true (by omega)
 have hu := B0U hs hk
 rw [← hu, chZ, hi] at hf
 dsimp only at hf
 have hkb := eq_true (hP.keys.ok i.b)
 have hfb := hP.find i.b
 by_cases c : i.op = 14
 ·rw [if_pos c] at hf
  by_cases d : V3 S k i.b = true
  ·rw [if_pos d] at hf
   rw [show (S i.b || decide (i.b = (k : Int))) = true from d] at hfb
   rw [hf]
   simp -implicitDefEqProofs only [go_sem, h1, h2, h5, hlC, hzC, hir, k0, k1, k2, hkk, hkb, hfb, c, Option.some.injEq, forall_eq']
   done
  ·rw [if_neg d] at hf
   rw [show (S i.b || decide (i.b = (k : Int))) = false from by cases e : V3 S k i.b with | true => exact (d e).elim | false => exact e] at hfb
   obtain ⟨b0, b1⟩ := hj i (List.mem_of_getElem? hi) (by simp [J1, c])
   obtain ⟨t, ht⟩ : ∃ t : Nat, i.b = t := ⟨i.b.toNat, by omega⟩
   rw [ht] at d hfb hkb b1 hf
   rw [Int.toNat_natCast] at hf
   simp -implicitDefEqProofs only [go_sem, h1, h2, h5, hlC, hzC, hir, k0, k1, k2, hkk, hkb, hfb, c, ht, Option.some.injEq, forall_eq']
   have hd : V3 S k t = false := by cases e : V3 S k t with | true => exact (d e).elim | false => rfl
   have fin := fun s => ih s (t, A2M (.int .i64 k) (.bool true) es, m + 1, V3 S k) ⟨⟨hP, by dsimp only; omega⟩, hd, hf⟩ (by dsimp only; omega)
   exact fin _ (by simp -implicitDefEqProofs only [go_sem])
 ·rw [if_neg c] at hf
  have c2 := eq_false c
  rw [hf]
  simp -implicitDefEqProofs only [go_sem, h1, h2, h5, hlC, hzC, hir, k0, k1, k2, hkk, c2, Option.some.injEq, forall_eq']
  done
def tuL (f : Ins → Ins) (l : List Ins) (j : Nat) : List Ins := (l.take j).map f ++ l.drop j
theorem C6o (f : Ins → Ins) (l : List Ins) (j : Nat) : (tuL f l j).length = l.length := by simp [tuL]; omega
theorem C4H (f : Ins → Ins) (l : List Ins) : tuL f l 0 = l := by simp [tuL]
theorem C6n (f : Ins → Ins) (l : List Ins) : tuL f l l.length = l.map f := by simp [tuL]
theorem B9m {f : Ins → Ins} {l : List Ins} {j : Nat} {i : Ins} (h : l[j]? = some i) : (tuL f l j)[j]? = some i := by
 have hj := (List.getElem?_eq_some_iff.1 h).1
 unfold tuL
 rw [List.getElem?_append_right (by simp; omega)]
 simp only [List.length_map, List.length_take, Nat.min_eq_left (Nat.le_of_lt hj), Nat.sub_self, List.getElem?_drop, Nat.add_zero]
 exact h
theorem B7N {f : Ins → Ins} {l : List Ins} {j : Nat} {i : Ins} (h : l[j]? = some i) : tuL f l (j + 1) = (tuL f l j).set j (f i) := by
 obtain ⟨hj, he⟩ := List.getElem?_eq_some_iff.1 h
 unfold tuL
 have e1 : l.take (j + 1) = l.take j ++ [i] := by rw [List.take_add_one, h]; rfl
 have e2 : l.drop j = i :: l.drop (j + 1) := by rw [List.drop_eq_getElem_cons hj, he]
 have hl : ((l.take j).map f).length = j := by simp; omega
 rw [e1, e2, List.set_append_right _ _ (by omega), hl, Nat.sub_self]
 simp
theorem C4G {f : Ins → Ins} {l : List Ins} {j : Nat} {i : Ins} (h : l[j]? = some i) (hn : f i = i) : tuL f l (j + 1) = tuL f l j := by
 rw [B7N h, hn]
 refine List.ext_getElem? fun x => ?_
 rw [List.getElem?_set]
 split
 ·rename_i e
  subst e
  rw [B9m h, if_pos (List.getElem?_eq_some_iff.1 (B9m (f := f) h)).1]
 ·rfl
def K8 (code : List Ins) (i : Ins) : Ins := if J1 i.op = true ∧ i.op ≠ 26 then { i with b := C1c code i.b.toNat } else i
def C3 (p : Fn) : Fn := { p with code := p.code.map (K8 p.code) }
theorem B6Q (p : Fn) (hc : p.code.length ≤ 20000) (hj : InJ p.code) : Pure Tryz.prog 16 [.agg p.row] (.agg (C3 p).row) := by
 have hfi := fun a ha => B8r p hc hj a ha
 have hrw := Fn.row_eq p
 have hsub := Fn.row_sub C0 p
 have hzC : B6 (p.code.map Ins.row) 5 = True := eq_true (B0 Ins.row 5 (fun _ => rfl) p.code)
 have hlC : (p.code.map Ins.row).length = p.code.length := List.length_map ..
 have hor : (C3 p).row = [.str p.name, .int .i64 p.line, .int .i64 p.params, .bool p.vararg, .int .i64 p.regs, .isl ((p.code.map (K8 p.code)).map Ins.row), .isl (p.lines.map D2), .isl (p.consts.map Kst.row), .isl (p.protos.map Fn.row), .isl (p.ups.map Upv.row), .isl (p.vars.map Vr.row)] := by rw [Fn.row_eq]; rfl
 have hos := Fn.row_sub C0 (C3 p)
 rw [hrw] at hfi hsub ⊢
 refine Pure.of 0 (A2.enterK A0i (Nat.le_of_ble_eq_true rfl) fun Q hQ => Run.go 100 ?_)
 have t1 : ((p.code.length : Int)).toNat = p.code.length := Int.toNat_natCast _
 simp -implicitDefEqProofs only [go_sem, A5, hlC, hzC, t1]
 have t2 : (p.code.map Ins.row).take (min p.code.length p.code.length) ++ (List.replicate p.code.length [V.int .i64 0, .int .i64 0, .int .i64 0, .int .i64 0, .int .i64 0]).drop (min p.code.length p.code.length) = p.code.map Ins.row := by
  rw [Nat.min_self, List.take_of_length_le (by omega), List.drop_of_length_le (by simp), List.append_nil]
 rw [t2]
 refine ⟨by omega, by omega, ?_⟩
 generalize hJ : K8 p.code = J at *
 generalize hCR : p.code.map Ins.row = CR at *
 refine Run.roundsK (fun (x : Nat × Nat) => ⟨[(18, .int .i64 x.1), (17, .int .i64 p.code.length), (16, .sl (16 * 10000 + 11) 2 0 p.code.length), (3, .sl (16 * 10000 + 11) 2 0 p.code.length), (2, .ptr (16 * 10000 + 2) 1 0 0), (1, .ptr (16 * 10000 + 1) 0 0 0)],
  [((16 * 10000 + 11), 2, .rows 5 ((tuL J p.code x.1).map Ins.row)), ((16 * 10000 + 2), 1, .rows 11 [[.str [], .int .i64 0, .int .i64 0, .bool false, .int .i64 0, .nils, .nils, .nils, .nils, .nils, .nils]]), ((16 * 10000 + 1), 0, .rows 11 [[.str p.name, .int .i64 p.line, .int .i64 p.params, .bool p.vararg, .int .i64 p.regs, .isl CR, .isl (p.lines.map D2), .isl (p.consts.map Kst.row), .isl (p.protos.map Fn.row), .isl (p.ups.map Upv.row), .isl (p.vars.map Vr.row)]])], x.2⟩)
  (fun x => x.1 ≤ p.code.length) (fun x => p.code.length - x.1) (0, 3) ?_ (Nat.zero_le _) ?_
 ·exact .turn id ⟨.refl _, .refl _, .refl _, .refl _, .refl _, .refl _, trivial⟩ (.at 0 rfl rfl (.of_eq (by rw [C4H, hCR])) (.at 1 rfl rfl (.refl _) (.at 2 rfl rfl (.refl _) (.of fun e he => by cases he))))
 rintro ⟨j, m⟩ hj' ih
 dsimp only at hj' ih ⊢
 refine Run.unf A4g (Run.go 100 ?_)
 have hMl := C6o J p.code j
 have hMz : B6 ((tuL J p.code j).map Ins.row) 5 = True := eq_true (B0 Ins.row 5 (fun _ => rfl) _)
 by_cases c : (j : Int) < p.code.length
 ·obtain ⟨i, hi⟩ : ∃ i, p.code[j]? = some i := ⟨p.code[j]'(by omega), by simp⟩
  have hMi := B9m (f := J) hi
  have k0 : ((0 : Int) ≤ (j : Int)) = True := eq_true (by omega)
  have k1 : (j < p.code.length) = True := eq_true (by omega)
  have tp := A2l i
  have fin := fun s' m2 => ih s' (j + 1, m2) (by dsimp only; omega) (by dsimp only; omega)
  dsimp only at fin
  by_cases c2 : J1 i.op = true ∧ i.op ≠ 26
  ·obtain ⟨c3, c4⟩ := c2
   have hJi : J i = { i with b := C1c p.code i.b.toNat } := by rw [← hJ]; unfold K8; rw [if_pos ⟨c3, c4⟩]
   rw [B7N hi, hJi] at fin
   obtain ⟨b0, b1⟩ := hj i (List.mem_of_getElem? hi) c3
   obtain ⟨t, ht⟩ : ∃ t : Nat, i.b = t := ⟨i.b.toNat, by omega⟩
   rw [ht] at fin tp
   rw [Int.toNat_natCast] at fin
   have hft := hfi t (by omega)
   have c5 := eq_false c4
   simp -implicitDefEqProofs only [go_sem, c, k0, k1, hMl, hMz, hMi, ht, Option.some.injEq, forall_eq']
   rw [show i.v = .agg [.int .i64 i.op, .int .i64 i.a, .int .i64 t, .int .i64 i.c, .int .i64 i.d] by unfold Ins.v Ins.row; rw [ht]] at tp
   refine A2.pureF tp (by simp -implicitDefEqProofs only [go_sem]) ?_
   simp -implicitDefEqProofs only [go_sem, c3, c5]
   refine A2.pureF hft (by simp -implicitDefEqProofs only [go_sem, hsub]) ?_
   simp -implicitDefEqProofs only [go_sem, c, k0, k1, hMl, hMz, hMi, ht, Nat.reduceDiv, Option.some.injEq, forall_eq']
   refine ⟨⟨by omega, by omega⟩, fin _ (m + 1) (.turn id ⟨.refl _, .refl _, .refl _, .refl _, .refl _, .refl _, trivial⟩ (.at 0 rfl rfl (.of_eq ?_) (.at 2 rfl rfl (.refl _) (.at 3 rfl rfl (.refl _) (.of fun e he => by cases he)))))⟩
   rw [List.map_set]
   rfl
  ·have hJi : J i = i := by rw [← hJ]; unfold K8; rw [if_neg c2]
   rw [C4G hi hJi] at fin
   simp -implicitDefEqProofs only [go_sem, c, k0, k1, hMl, hMz, hMi, Option.some.injEq, forall_eq']
   refine A2.pureF tp (by simp -implicitDefEqProofs only [go_sem]) ?_
   cases c3 : J1 i.op with
   | false =>
    simp -implicitDefEqProofs only [go_sem, c3]
    exact ⟨⟨by omega, by omega⟩, fin _ (m + 1) (.turn id ⟨.refl _, .refl _, .refl _, .refl _, .refl _, .refl _, trivial⟩ (.at 1 rfl rfl (.refl _) (.at 2 rfl rfl (.refl _) (.at 3 rfl rfl (.refl _) (.of fun e he => by cases he)))))⟩
   | true =>
    have c4 : (i.op = 26) = True := eq_true (by
     by_cases h : i.op = 26
     ·exact h
     ·exact (c2 ⟨c3, h⟩).elim)
    simp -implicitDefEqProofs only [go_sem, c3, c4]
    exact ⟨⟨by omega, by omega⟩, fin _ (m + 1) (.turn id ⟨.refl _, .refl _, .refl _, .refl _, .refl _, .refl _, trivial⟩ (.at 1 rfl rfl (.refl _) (.at 2 rfl rfl (.refl _) (.at 3 rfl rfl (.refl _) (.of fun e he => by cases he)))))⟩
 ·obtain rfl : j = p.code.length := by omega
  rw [C6n]
  simp -implicitDefEqProofs only [go_sem, c]
  subst hQ
  refine u9.to (r2 := .agg (C3 p).row) (h2 := []) (n2 := m) ?_ ?_
  ·generalize (C3 p).row = OR at *
   simp -implicitDefEqProofs only [go_sem]
   exact hos
  ·rw [hor]
   exact .freeze (b := (16 * 10000 + 11)) (st := 2) (sz := 5) (rs := (p.code.map J).map Ins.row) (by simp) ⟨Frz.agg ⟨.of (.refl _), .of (.refl _), .of (.refl _), .of (.refl _), .of (.refl _), Frz.all (by simp), .of (.refl _), .of (.refl _), .of (.refl _), .of (.refl _), .of (.refl _), trivial⟩, trivial⟩ trivial
end Go.Proofs.YtoanghfeednogaaGreatDoor
