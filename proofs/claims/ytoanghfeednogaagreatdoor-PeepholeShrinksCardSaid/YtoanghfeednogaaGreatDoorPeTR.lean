/-
 Removal. No condition.
-/
import Derived.Test.YtoanghfeednogaaGreatDoorFn
import Derived.Test.YtoanghfeednogaaGreatDoorOpcM
import Derived.Test.YtoanghfeednogaaGreatDoorFnCk
import Derived.Test.YtoanghfeednogaaGreatDoorUtl
set_option linter.unusedVariables false
set_option linter.unusedSimpArgs false
set_option maxRecDepth 100000
set_option maxHeartbeats 0
namespace Go.Proofs.YtoanghfeednogaaGreatDoor
open Go.Abs
attribute [local irreducible] A2 Run
def J2 (gone : Nat → Bool) : Nat → Nat
 | 0 => 0
 | k + 1 => J2 gone k + (if gone k = true then 0 else 1)
theorem A9x (gone : Nat → Bool) : ∀ k, J2 gone k ≤ k
 | 0 => Nat.le_refl _
 | k + 1 => by rw [J2]; have := A9x gone k; split <;> omega
def D1 {α : Type} (gone : Nat → Bool) (l : List α) : Nat → List α
 | 0 => []
 | k + 1 => match l[k]? with
  | some x => if gone k = true then D1 gone l k else D1 gone l k ++ [x]
  | none => D1 gone l k
theorem p7 {α : Type} (gone : Nat → Bool) (l : List α) : ∀ k, k ≤ l.length → (D1 gone l k).length = J2 gone k
 | 0, _ => rfl
 | k + 1, h => by
  obtain ⟨x, hx⟩ : ∃ x, l[k]? = some x := ⟨l[k]'(by omega), by simp⟩
  rw [D1, J2, hx]
  have := p7 gone l k (by omega)
  dsimp only
  split
  ·rw [this]; rfl
  ·rw [List.length_append, this]; rfl
theorem B2K {α : Type} {gone : Nat → Bool} {l : List α} {k : Nat} {x : α} (hx : l[k]? = some x) (h : gone k = true) : D1 gone l (k + 1) = D1 gone l k := by rw [D1, hx]; simp [h]
theorem A8c {α : Type} {gone : Nat → Bool} {l : List α} {k : Nat} {x : α} (hx : l[k]? = some x) (h : gone k = false) : D1 gone l (k + 1) = D1 gone l k ++ [x] := by rw [D1, hx]; simp [h]
theorem B0x {α : Type} (gone : Nat → Bool) (l : List α) : ∀ k, (D1 gone l k).Sublist (l.take k)
 | 0 => by simp [D1]
 | k + 1 => by
  have ih := B0x gone l k
  rw [D1]
  cases hx : l[k]? with
  | none =>
   have : l.take (k + 1) = l.take k := by rw [List.take_add_one, hx]; simp
   rw [this]; exact ih
  | some x =>
   have : l.take (k + 1) = l.take k ++ [x] := by rw [List.take_add_one, hx]; rfl
   rw [this]
   dsimp only
   split
   ·exact ih.trans (List.sublist_append_left _ _)
   ·exact ih.append (List.Sublist.refl _)
theorem C1o {α : Type} {gone : Nat → Bool} {l : List α} {k : Nat} {x : α} (h : x ∈ D1 gone l k) : x ∈ l := List.mem_of_mem_take ((B0x gone l k).subset h)
def A0f (gone : Nat → Bool) (i : Ins) : Ins := if J1 i.op = true then { i with b := J2 gone i.b.toNat } else i
def A5S (gone : Nat → Bool) (v : Vr) : Vr := { v with lo := J2 gone v.lo.toNat, hi := J2 gone v.hi.toNat }
def B3j (v : Vr) : Bool := decide (v.lo ≠ v.hi)
def E2 (gone : Nat → Bool) (p : Fn) : Fn := { p with code := (D1 gone p.code p.code.length).map (A0f gone), lines := if p.lines.length = 0 then [] else D1 gone p.lines p.code.length, vars := (p.vars.map (A5S gone)).filter B3j }
structure RemOK (p : Fn) : Prop where
 code : p.code.length ≤ 20000
 lines : p.lines.length = p.code.length ∨ p.lines.length = 0
 jumps : ∀ i ∈ p.code, J1 i.op = true → 0 ≤ i.b ∧ i.b ≤ p.code.length
 vars : ∀ v ∈ p.vars, (0 ≤ v.lo ∧ v.lo ≤ p.code.length) ∧ (0 ≤ v.hi ∧ v.hi ≤ p.code.length)
 most : p.vars.length ≤ 100000
def A5T (gone : Nat → Bool) (n k : Nat) : List (List V) := (List.range n).map fun i => [.int .i64 (if i < k then (J2 gone i : Int) else 0)]
theorem A9z (gone : Nat → Bool) (n k : Nat) : (A5T gone n k).length = n := by simp [A5T]
theorem C1x (gone : Nat → Bool) (n : Nat) : A5T gone n 0 = List.replicate n [.int .i64 0] := by
 unfold A5T
 simp only [Nat.not_lt_zero, if_false]
 rw [List.map_const']; simp
theorem A9y {gone : Nat → Bool} {n k i : Nat} (h : i < n) : (A5T gone n k)[i]? = some [.int .i64 (if i < k then (J2 gone i : Int) else 0)] := by simp [A5T, h]
theorem C3P {gone : Nat → Bool} {n k i : Nat} (h : i < n) (hk : i < k) : (A5T gone n k)[i]? = some [.int .i64 (J2 gone i : Int)] := by rw [A9y h, if_pos hk]
theorem B7i {gone : Nat → Bool} {n k : Nat} (h : k < n) : (A5T gone n k).set k [.int .i64 (J2 gone k : Int)] = A5T gone n (k + 1) := by
 refine List.ext_getElem? fun i => ?_
 rw [List.getElem?_set]
 rcases Nat.lt_or_ge i n with hi | hi
 ·rw [A9y hi, A9y hi]
  by_cases e : k = i
  ·subst e
   rw [if_pos rfl, if_pos (by rw [A9z]; exact hi), if_pos (Nat.lt_succ_self _)]
  ·rw [if_neg e]
   by_cases hik : i < k
   ·rw [if_pos hik, if_pos (by omega)]
   ·rw [if_neg hik, if_neg (by omega)]
 ·have h1 : (A5T gone n k)[i]? = none := by simp [A5T, hi]
  have h2 : (A5T gone n (k + 1))[i]? = none := by simp [A5T, hi]
  rw [h1, h2, if_neg (by omega)]
def mvL (gone : Nat → Bool) (l : List Ins) (j : Nat) : List Ins := (l.take j).map (A0f gone) ++ l.drop j
theorem C5A (gone : Nat → Bool) (l : List Ins) (j : Nat) : (mvL gone l j).length = l.length := by simp [mvL]; omega
theorem C3L (gone : Nat → Bool) (l : List Ins) : mvL gone l 0 = l := by simp [mvL]
theorem C5z (gone : Nat → Bool) (l : List Ins) : mvL gone l l.length = l.map (A0f gone) := by simp [mvL]
theorem B5y {gone : Nat → Bool} {l : List Ins} {j : Nat} {i : Ins} (h : l[j]? = some i) : (mvL gone l j)[j]? = some i := by
 have hj := (List.getElem?_eq_some_iff.1 h).1
 unfold mvL
 rw [List.getElem?_append_right (by simp; omega)]
 simp only [List.length_map, List.length_take, Nat.min_eq_left (Nat.le_of_lt hj), Nat.sub_self, List.getElem?_drop, Nat.add_zero]
 exact h
theorem B7e {gone : Nat → Bool} {l : List Ins} {j : Nat} {i : Ins} (h : l[j]? = some i) : mvL gone l (j + 1) = (mvL gone l j).set j (A0f gone i) := by
 obtain ⟨hj, he⟩ := List.getElem?_eq_some_iff.1 h
 unfold mvL
 have e1 : l.take (j + 1) = l.take j ++ [i] := by rw [List.take_add_one, h]; rfl
 have e2 : l.drop j = i :: l.drop (j + 1) := by rw [List.drop_eq_getElem_cons hj, he]
 have hl : ((l.take j).map (A0f gone)).length = j := by simp; omega
 rw [e1, e2, List.set_append_right _ _ (by omega), hl, Nat.sub_self]
 simp
theorem C3K {gone : Nat → Bool} {l : List Ins} {j : Nat} {i : Ins} (h : l[j]? = some i) (hn : J1 i.op = false) : mvL gone l (j + 1) = mvL gone l j := by
 rw [B7e h]
 have hm : A0f gone i = i := by unfold A0f; rw [hn]; simp
 rw [hm]
 refine List.ext_getElem? fun x => ?_
 rw [List.getElem?_set]
 split
 ·rename_i e
  subst e
  rw [B5y h, if_pos (List.getElem?_eq_some_iff.1 (B5y (gone := gone) h)).1]
 ·rfl
def A1v (gone : Nat → Bool) (l : List Vr) (k : Nat) : List Vr := ((l.take k).map (A5S gone)).filter B3j
theorem C2r (gone : Nat → Bool) (l : List Vr) : A1v gone l l.length = (l.map (A5S gone)).filter B3j := by simp [A1v]
theorem B9o {gone : Nat → Bool} {l : List Vr} {k : Nat} {v : Vr} (h : l[k]? = some v) : A1v gone l (k + 1) = if J2 gone v.lo.toNat = J2 gone v.hi.toNat then A1v gone l k else A1v gone l k ++ [A5S gone v] := by
 unfold A1v
 rw [List.take_add_one, h, Option.toList_some, List.map_append, List.filter_append]
 by_cases e : J2 gone v.lo.toNat = J2 gone v.hi.toNat
 ·rw [if_pos e]; simp [B3j, A5S, e]
 ·rw [if_neg e]
  have : ¬ ((J2 gone v.lo.toNat : Int) = J2 gone v.hi.toNat) := by omega
  simp [B3j, A5S, this]
theorem C2s (gone : Nat → Bool) (l : List Vr) (k : Nat) : (A1v gone l k).length ≤ k := by
 unfold A1v
 refine Nat.le_trans (List.length_filter_le _ _) ?_
 simp; omega
abbrev rN (k : Nat) : Nat := 21 * 10000 + k
attribute [local go_sem] rN Ins.v Ins.row Vr.row
theorem B1m (p : Fn) (hok : RemOK p) (gone : Nat → Bool) (g : FuncId) (cs : List V) (h0 : A0) (hg : F0 Tryz.prog g = true) (hap : ∀ b, b / 10000 = 21 → ∀ e ∈ h0, e.1 ≠ b)
  (hf : ∀ i, i < p.code.length → ∀ n, A2 Tryz.prog g (.int .i64 (i : Nat) :: cs) h0 n fun r h' _ => r = .bool (gone i) ∧ h' = h0) (n : Nat) :
  A2 Tryz.prog 21 [.agg p.row, .fn g cs] h0 n fun r h' _ => r = .agg (E2 gone p).row ∧ h' = h0 := by
 have hdel : ∀ b, b / 10000 = 21 → A0.del h0 b = h0 := fun b hb => Y8.del (hap b hb)
 have hc1 := hok.code
 obtain ⟨h1, h2⟩ := A9 p
 rw [Fn.row_eq p]
 have hlC : (p.code.map Ins.row).length = p.code.length := List.length_map ..
 have hrC : ∀ (k : Nat) x, p.code[k]? = some x → (p.code.map Ins.row)[k]? = some x.row := fun k x h => by rw [List.getElem?_map, h]; rfl
 have hzC : B6 (p.code.map Ins.row) 5 = True := eq_true (B0 Ins.row 5 (fun _ => rfl) p.code)
 have hlL : (p.lines.map D2).length = p.lines.length := List.length_map ..
 have hrL : ∀ (k : Nat) x, p.lines[k]? = some x → (p.lines.map D2)[k]? = some [.int .i64 x] := fun k x h => by rw [List.getElem?_map, h]; rfl
 have hzL : B6 (p.lines.map D2) 1 = True := eq_true (B0 D2 1 (fun _ => rfl) p.lines)
 have hlV : (p.vars.map Vr.row).length = p.vars.length := List.length_map ..
 have hrV : ∀ (k : Nat) x, p.vars[k]? = some x → (p.vars.map Vr.row)[k]? = some x.row := fun k x h => by rw [List.getElem?_map, h]; rfl
 have hzV : B6 (p.vars.map Vr.row) 5 = True := eq_true (B0 Vr.row 5 (fun _ => rfl) p.vars)
 generalize hCR : p.code.map Ins.row = CR at *
 generalize hLR : p.lines.map D2 = LR at *
 generalize hVR : p.vars.map Vr.row = VR at *
 generalize hKR : p.consts.map Kst.row = KR at *
 generalize hPR : p.protos.map Fn.row = PR at *
 generalize hUR : p.ups.map Upv.row = UR at *
 refine A2.enterK A1i (Nat.le_of_ble_eq_true rfl) fun Q hQ => Run.go 100 ?_
 simp -implicitDefEqProofs only [go_sem, A5, hdel, Nat.reduceDiv, hlC]
 refine ⟨⟨by omega, by omega⟩, by omega, by omega, ?_⟩
 have hN0 : List.replicate ((p.code.length : Int) + 1).toNat [V.int .i64 0] = A5T gone (p.code.length + 1) 0 := by rw [C1x, show ((p.code.length : Int) + 1).toNat = p.code.length + 1 from by omega]
 have hNt : ((p.code.length : Int) + 1).toNat = p.code.length + 1 := by omega
 rw [hN0, hNt]
 refine Run.roundsK (fun (x : Nat × Nat × Nat × Nat) => ⟨[(25, .int .i64 x.1), (24, .int .i64 p.code.length), (23, .isl CR), (7, .sl (rN 53) x.2.2.1 0 (if p.lines.length = 0 then 0 else J2 gone x.1)), (6, .sl (rN 41) x.2.1 0 (J2 gone x.1)), (5, .sl (rN 21) (n + 2) 0 (p.code.length + 1)), (4, .ptr (rN 4) (n + 1) 0 0), (2, .ptr (rN 2) n 0 0), (1, .fn g cs)],
   (rN 41, x.2.1, .rows 5 ((D1 gone p.code x.1).map Ins.row)) :: (rN 53, x.2.2.1, .rows 1 ((if p.lines.length = 0 then [] else D1 gone p.lines x.1).map D2)) :: (rN 21, n + 2, .rows 1 (A5T gone (p.code.length + 1) x.1)) :: (rN 4, n + 1, .rows 11 [[.str [], .int .i64 0, .int .i64 0, .bool false, .int .i64 0, .nils, .nils, .nils, .nils, .nils, .nils]]) ::
   (rN 2, n, .rows 11 [[.str p.name, .int .i64 p.line, .int .i64 p.params, .bool p.vararg, .int .i64 p.regs, .isl CR, .isl LR, .isl KR, .isl PR, .isl UR, .isl VR]]) :: h0, x.2.2.2⟩)
  (fun x => x.1 ≤ p.code.length) (fun x => p.code.length - x.1) (0, n + 3, n + 4, n + 5) ?_ (Nat.zero_le _) ?_
 ·refine .trans (.fresh (rN 41) 5 _ _ _) (.trans (.fresh (rN 53) 1 _ _ _) (.turn id ⟨.refl _, .refl _, .refl _, ?_, .nils, .refl _, .refl _, .refl _, .refl _, trivial⟩ ?_))
  ·rw [show (if p.lines.length = 0 then 0 else J2 gone (0, n + 3, n + 4, n + 5).1) = 0 from by split <;> rfl]; exact .nils
  ·simp -implicitDefEqProofs only [go_sem, hdel, Nat.reduceDiv]
   exact .at 1 rfl rfl (.refl _) (.at 0 rfl rfl (.of_eq (by split <;> rfl)) (.at 2 rfl rfl (.refl _) (.at 3 rfl rfl (.refl _) (.at 4 rfl rfl (.refl _) (.of fun e he => ⟨e, by simp [he], rfl, rfl, .refl _⟩)))))
 rintro ⟨k, sc, sl, m⟩ hk ih
 dsimp only at hk ih ⊢
 refine Run.unf A5x (Run.go 100 ?_)
 have hnb := A9x gone k
 have hkl := p7 gone p.code k hk
 by_cases c : (k : Int) < p.code.length
 ·obtain ⟨i, hi⟩ : ∃ i, p.code[k]? = some i := ⟨p.code[k]'(by omega), by simp⟩
  have hir := hrC k i hi
  have k0 : ((0 : Int) ≤ (k : Int)) = True := eq_true (by omega)
  have k1 : (k < p.code.length) = True := eq_true (by omega)
  have k3 : ((k : Int) < ((p.code.length + 1 : Nat) : Int)) = True := eq_true (by omega)
  have hNr := A9y (gone := gone) (n := p.code.length + 1) (k := k) (i := k) (by omega)
  have hNl := A9z gone (p.code.length + 1) k
  have hNs := B7i (gone := gone) (n := p.code.length + 1) (k := k) (by omega)
  have hcall := hf k (by omega)
  simp -implicitDefEqProofs only [go_sem, c, k0, k1, k3, hlC, hzC, hir, hNr, hNl, hNs, hkl, hdel, Nat.reduceDiv, Option.some.injEq, forall_eq']
  refine ⟨hg, A2.use (rest := [_, _, _, _, _, _]) (hcall (m + 1)) rfl (fun e he e' he' => ?_) ?_⟩
  ·simp only [List.mem_cons, List.not_mem_nil, or_false] at he
   rcases he with rfl | rfl | rfl | rfl | rfl | rfl <;> exact hap _ (by simp) e' he'
  rintro r h' n' hn ⟨rfl, hh⟩
  rw [hh]
  clear hh hn
  have hlx : ∀ x, p.lines[k]? = some x ∨ p.lines.length = 0 → True := fun _ _ => trivial
  cases hgk : gone k with
  | true =>
   have e1 : D1 gone p.code (k + 1) = D1 gone p.code k := B2K hi hgk
   have e2 : (if p.lines.length = 0 then [] else D1 gone p.lines (k + 1)) = if p.lines.length = 0 then [] else D1 gone p.lines k := by
    split
    ·rfl
    ·rename_i hz
     have := hok.lines.resolve_right hz
     exact B2K (x := p.lines[k]'(by omega)) (by simp) hgk
   have e3 : J2 gone (k + 1) = J2 gone k := by show J2 gone k + _ = _; rw [hgk]; rfl
   have fin := fun s' => ih s' (k + 1, sc, sl, n') (by dsimp only; omega) (by dsimp only; omega)
   dsimp only at fin
   rw [e1, e2, e3] at fin
   simp -implicitDefEqProofs only [go_sem, List.cons_append, List.nil_append]
   exact ⟨⟨by omega, by omega⟩, fin _ (.turn id ⟨.refl _, .refl _, .refl _, .refl _, .refl _, .refl _, .refl _, .refl _, .refl _, trivial⟩ (.at 2 rfl rfl (.refl _) (.at 3 rfl rfl (.refl _) (.at 0 rfl rfl (.refl _) (.at 4 rfl rfl (.refl _) (.at 5 rfl rfl (.refl _) (.of fun e he => ⟨e, by simp [he], rfl, rfl, .refl _⟩)))))))⟩
  | false =>
   have e1 : D1 gone p.code (k + 1) = D1 gone p.code k ++ [i] := A8c hi hgk
   have e3 : J2 gone (k + 1) = J2 gone k + 1 := by show J2 gone k + _ = _; rw [hgk]; rfl
   have hle : (J2 gone k ≤ (D1 gone p.code k).length) = True := eq_true (by omega)
   have hle2 : (J2 gone k ≤ 137438953471) = True := eq_true (by omega)
   have htk : List.take (J2 gone k) ((D1 gone p.code k).map Ins.row) = (D1 gone p.code k).map Ins.row := List.take_of_length_le (by simp; omega)
   have fin := fun s' sl2 n2 => ih s' (k + 1, n', sl2, n2) (by dsimp only; omega) (by dsimp only; omega)
   dsimp only at fin
   by_cases hz : p.lines.length = 0
   ·have c2 : ((0 : Int) < (p.lines.length : Int)) = False := eq_false (by omega)
    rw [e1, e3] at fin
    simp -implicitDefEqProofs only [go_sem, List.cons_append, List.nil_append, hlL, hdel, Nat.reduceDiv, hle, hle2, htk, c2]
    simp only [hz, if_true] at fin ⊢
    refine ⟨⟨by omega, by omega⟩, fin _ sl (n' + 1) (.turn id ⟨.refl _, .refl _, .refl _, .refl _, .refl _, .refl _, .refl _, .refl _, .refl _, trivial⟩ (.at 0 rfl rfl (.of_eq (by simp [Ins.row])) (.at 3 rfl rfl (.refl _) (.at 1 rfl rfl (.refl _) (.at 4 rfl rfl (.refl _) (.at 5 rfl rfl (.refl _) (.of fun e he => ⟨e, by simp [he], rfl, rfl, .refl _⟩)))))))⟩
   ·have c2 : ((0 : Int) < (p.lines.length : Int)) = True := eq_true (by omega)
    have hll := hok.lines.resolve_right hz
    obtain ⟨y, hy⟩ : ∃ y, p.lines[k]? = some y := ⟨p.lines[k]'(by omega), by simp⟩
    have hyr := hrL k y hy
    have c3 : ((k : Int) < (p.lines.length : Int)) = True := eq_true (by omega)
    have c4 : (k < p.lines.length) = True := eq_true (by omega)
    have e4 : D1 gone p.lines (k + 1) = D1 gone p.lines k ++ [y] := A8c hy hgk
    have hkl2 := p7 gone p.lines k (by omega)
    have hle3 : (J2 gone k ≤ (D1 gone p.lines k).length) = True := eq_true (by omega)
    have htk2 : List.take (J2 gone k) ((D1 gone p.lines k).map D2) = (D1 gone p.lines k).map D2 := List.take_of_length_le (by simp; omega)
    have z0 : (p.lines.length = 0) = False := eq_false hz
    simp only [z0, if_false] at fin ⊢
    rw [e1, e3, e4] at fin
    simp -implicitDefEqProofs only [go_sem, List.cons_append, List.nil_append, hlL, hdel, Nat.reduceDiv, hle, hle2, htk, c2, c3, c4, k0, hyr, hzL, hle3, htk2, Option.some.injEq, forall_eq']
    refine ⟨⟨by omega, by omega⟩, fin _ (n' + 1) (n' + 1 + 1) (.turn id ⟨.refl _, .refl _, .refl _, .refl _, .refl _, .refl _, .refl _, .refl _, .refl _, trivial⟩ (.at 1 rfl rfl (.of_eq (by simp [Ins.row])) (.at 0 rfl rfl (.of_eq (by simp [D2])) (.at 2 rfl rfl (.refl _) (.at 4 rfl rfl (.refl _) (.at 5 rfl rfl (.refl _) (.of fun e he => ⟨e, by simp [he], rfl, rfl, .refl _⟩)))))))⟩
 ·obtain rfl : k = p.code.length := by omega
  have hNs := B7i (gone := gone) (n := p.code.length + 1) (k := p.code.length) (by omega)
  have hNl := A9z gone (p.code.length + 1) p.code.length
  have k3 : ((p.code.length : Int) < ((p.code.length + 1 : Nat) : Int)) = True := eq_true (by omega)
  have k0 : ((0 : Int) ≤ (p.code.length : Int)) = True := eq_true (by omega)
  have k1 : (p.code.length < p.code.length + 1) = True := eq_true (by omega)
  have hle : (J2 gone p.code.length ≤ (D1 gone p.code p.code.length).length) = True := eq_true (by omega)
  simp -implicitDefEqProofs only [go_sem, c, k0, k1, k3, hlC, hNl, hNs, hkl, hdel, Nat.reduceDiv, Option.some.injEq, forall_eq', List.cons_append, List.nil_append, hle]
  intro row hrow
  have hNr := A9y (gone := gone) (n := p.code.length + 1) (k := p.code.length) (i := p.code.length) (by omega)
  rw [hNr] at hrow
  obtain rfl := Option.some.inj hrow
  refine ⟨Nat.le_refl _, ?_⟩
  rw [show List.drop 1 [V.int IntKind.i64 (if p.code.length < p.code.length then (J2 gone p.code.length : Int) else 0)] = [] from rfl, hNs]
  clear hNs hNr hNl hrow
  have hNl := A9z gone (p.code.length + 1) (p.code.length + 1)
  have hNo : ∀ x : Nat, x ≤ p.code.length → (A5T gone (p.code.length + 1) (p.code.length + 1))[x]? = some [.int .i64 (J2 gone x : Int)] := fun x hx => C3P (by omega) (by omega)
  generalize hNN : A5T gone (p.code.length + 1) (p.code.length + 1) = NN at *
  generalize hLL : (if p.lines.length = 0 then [] else D1 gone p.lines p.code.length) = LL at *
  generalize hlm : (if p.lines.length = 0 then 0 else J2 gone p.code.length) = lm at *
  have hKm : ∀ i ∈ D1 gone p.code p.code.length, i ∈ p.code := fun i h => C1o h
  generalize hKK : D1 gone p.code p.code.length = K at *
  generalize hmm : J2 gone p.code.length = mm at *
  refine Run.roundsK (fun (x : Nat × Nat) => ⟨[(64, .int .i64 x.1), (63, .int .i64 mm), (62, .sl (rN 41) sc 0 mm), (7, .sl (rN 53) sl 0 lm), (6, .sl (rN 41) sc 0 mm), (5, .sl (rN 21) (n + 2) 0 (p.code.length + 1)), (4, .ptr (rN 4) (n + 1) 0 0), (2, .ptr (rN 2) n 0 0)],
   (rN 41, sc, .rows 5 ((mvL gone K x.1).map Ins.row)) :: (rN 21, n + 2, .rows 1 NN) :: (rN 53, sl, .rows 1 (LL.map D2)) :: (rN 4, n + 1, .rows 11 [[.str [], .int .i64 0, .int .i64 0, .bool false, .int .i64 0, .nils, .nils, .nils, .nils, .nils, .nils]]) ::
   (rN 2, n, .rows 11 [[.str p.name, .int .i64 p.line, .int .i64 p.params, .bool p.vararg, .int .i64 p.regs, .isl CR, .isl LR, .isl KR, .isl PR, .isl UR, .isl VR]]) :: h0, x.2⟩)
   (fun x => x.1 ≤ mm) (fun x => mm - x.1) (0, m) ?_ (Nat.zero_le _) ?_
  ·exact .turn id ⟨.refl _, .refl _, .refl _, .refl _, .refl _, .refl _, .refl _, .refl _, trivial⟩ (.at 1 rfl rfl (.of_eq (by simp [C3L])) (.at 0 rfl rfl (.refl _) (.at 2 rfl rfl (.refl _) (.at 3 rfl rfl (.refl _) (.at 4 rfl rfl (.refl _) (.of fun e he => ⟨e, by simp [he], rfl, rfl, .refl _⟩))))))
  clear ih
  rintro ⟨j, m⟩ hj ih
  dsimp only at hj ih ⊢
  refine Run.unf A5y (Run.go 100 ?_)
  have hMl := C5A gone K j
  have hMz : B6 ((mvL gone K j).map Ins.row) 5 = True := eq_true (B0 Ins.row 5 (fun _ => rfl) _)
  by_cases c : (j : Int) < mm
  ·obtain ⟨i, hi⟩ : ∃ i, K[j]? = some i := ⟨K[j]'(by omega), by simp⟩
   have hir : ((mvL gone K j).map Ins.row)[j]? = some i.row := by rw [List.getElem?_map, B5y hi]; rfl
   have k0 : ((0 : Int) ≤ (j : Int)) = True := eq_true (by omega)
   have k1 : (j < mm) = True := eq_true (by omega)
   have k2 : (j < K.length) = True := eq_true (by omega)
   have tp := A2l i
   have hMi := B5y (gone := gone) hi
   simp -implicitDefEqProofs only [go_sem, c, k0, k1, k2, hMl, hMz, hMi, hir, hkl, hdel, Nat.reduceDiv, Option.some.injEq, forall_eq']
   refine A2.pureF tp (by simp -implicitDefEqProofs only [go_sem]) ?_
   cases hj2 : J1 i.op with
   | false =>
    have e1 := C3K (gone := gone) hi hj2
    have fin := fun s' => ih s' (j + 1, m + 1) (by dsimp only; omega) (by dsimp only; omega)
    dsimp only at fin
    rw [e1] at fin
    simp -implicitDefEqProofs only [go_sem, hj2, hdel, Nat.reduceDiv]
    exact ⟨⟨by omega, by omega⟩, fin _ (.turn id ⟨.refl _, .refl _, .refl _, .refl _, .refl _, .refl _, .refl _, .refl _, trivial⟩ (.at 1 rfl rfl (.refl _) (.at 2 rfl rfl (.refl _) (.at 3 rfl rfl (.refl _) (.at 4 rfl rfl (.refl _) (.at 5 rfl rfl (.refl _) (.of fun e he => ⟨e, by simp [he], rfl, rfl, .refl _⟩)))))))⟩
   | true =>
    have e1 := B7e (gone := gone) hi
    have fin := fun s' => ih s' (j + 1, m + 1) (by dsimp only; omega) (by dsimp only; omega)
    dsimp only at fin
    rw [e1] at fin
    obtain ⟨b0, b1⟩ := hok.jumps i (hKm i (List.mem_of_getElem? hi)) hj2
    obtain ⟨t, ht⟩ : ∃ t : Nat, i.b = t := ⟨i.b.toNat, by omega⟩
    have hNt := hNo t (by omega)
    have k4 : ((0 : Int) ≤ (t : Int)) = True := eq_true (by omega)
    have k5 : (t < p.code.length + 1) = True := eq_true (by omega)
    have k6 : ((t : Int) < ((p.code.length + 1 : Nat) : Int)) = True := eq_true (by omega)
    simp -implicitDefEqProofs only [go_sem, hj2, ht, hdel, Nat.reduceDiv, c, k0, k1, k2, k4, k5, k6, hMl, hMz, hMi, hir, hkl, hNl, hNt, Option.some.injEq, forall_eq']
    refine ⟨⟨by omega, by omega⟩, fin _ (.turn id ⟨.refl _, .refl _, .refl _, .refl _, .refl _, .refl _, .refl _, .refl _, trivial⟩ (.at 0 rfl rfl (.of_eq ?_) (.at 2 rfl rfl (.refl _) (.at 3 rfl rfl (.refl _) (.at 4 rfl rfl (.refl _) (.at 5 rfl rfl (.refl _) (.of fun e he => ⟨e, by simp [he], rfl, rfl, .refl _⟩)))))))⟩
    rw [List.map_set]
    unfold A0f
    rw [hj2, ht]
    rfl
  ·obtain rfl : j = mm := by omega
   have hMK : mvL gone K j = K.map (A0f gone) := by rw [← hkl]; exact C5z gone K
   rw [hMK]
   clear ih hMl hMz hMK
   simp -implicitDefEqProofs only [go_sem, c, hlV, hdel, Nat.reduceDiv]
   refine Run.roundsK (fun (x : Nat × Nat × Nat) => ⟨[(87, .int .i64 x.1), (86, .int .i64 p.vars.length), (85, .isl VR), (14, .sl (rN 111) x.2.1 0 (A1v gone p.vars x.1).length), (7, .sl (rN 53) sl 0 lm), (6, .sl (rN 41) sc 0 j), (5, .sl (rN 21) (n + 2) 0 (p.code.length + 1)), (4, .ptr (rN 4) (n + 1) 0 0), (2, .ptr (rN 2) n 0 0)],
    (rN 111, x.2.1, .rows 5 ((A1v gone p.vars x.1).map Vr.row)) :: (rN 41, sc, .rows 5 ((K.map (A0f gone)).map Ins.row)) :: (rN 21, n + 2, .rows 1 NN) :: (rN 53, sl, .rows 1 (LL.map D2)) :: (rN 4, n + 1, .rows 11 [[.str [], .int .i64 0, .int .i64 0, .bool false, .int .i64 0, .nils, .nils, .nils, .nils, .nils, .nils]]) ::
    (rN 2, n, .rows 11 [[.str p.name, .int .i64 p.line, .int .i64 p.params, .bool p.vararg, .int .i64 p.regs, .isl CR, .isl LR, .isl KR, .isl PR, .isl UR, .isl VR]]) :: h0, x.2.2⟩)
    (fun x => x.1 ≤ p.vars.length) (fun x => p.vars.length - x.1) (0, m, m + 1) ?_ (Nat.zero_le _) ?_
   ·refine .trans (.fresh (rN 111) 5 _ _ _) (.turn id ⟨.refl _, .refl _, .refl _, .nils, .refl _, .refl _, .refl _, .refl _, .refl _, trivial⟩ ?_)
    simp -implicitDefEqProofs only [go_sem, hdel, Nat.reduceDiv]
    exact .at 0 rfl rfl (.refl _) (.at 1 rfl rfl (.refl _) (.at 2 rfl rfl (.refl _) (.at 3 rfl rfl (.refl _) (.at 4 rfl rfl (.refl _) (.at 5 rfl rfl (.refl _) (.of fun e he => ⟨e, by simp [he], rfl, rfl, .refl _⟩))))))
   clear m
   rintro ⟨k, vm, m⟩ hk ih
   dsimp only at hk ih ⊢
   refine Run.unf A5z (Run.go 100 ?_)
   have hvn := C2s gone p.vars k
   have hvm := hok.most
   by_cases c : (k : Int) < p.vars.length
   ·obtain ⟨v, hv⟩ : ∃ v, p.vars[k]? = some v := ⟨p.vars[k]'(by omega), by simp⟩
    have hvr := hrV k v hv
    have k0 : ((0 : Int) ≤ (k : Int)) = True := eq_true (by omega)
    have k1 : (k < p.vars.length) = True := eq_true (by omega)
    obtain ⟨⟨a1, a2⟩, b1, b2⟩ := hok.vars v (List.mem_of_getElem? hv)
    obtain ⟨t, ht⟩ : ∃ t : Nat, v.lo = t := ⟨v.lo.toNat, by omega⟩
    obtain ⟨u, hu⟩ : ∃ u : Nat, v.hi = u := ⟨v.hi.toNat, by omega⟩
    have hNt := hNo t (by omega)
    have hNu := hNo u (by omega)
    have k4 : ((0 : Int) ≤ (t : Int)) = True := eq_true (by omega)
    have k5 : (t < p.code.length + 1) = True := eq_true (by omega)
    have k6 : ((t : Int) < ((p.code.length + 1 : Nat) : Int)) = True := eq_true (by omega)
    have k7 : ((0 : Int) ≤ (u : Int)) = True := eq_true (by omega)
    have k8 : (u < p.code.length + 1) = True := eq_true (by omega)
    have k9 : ((u : Int) < ((p.code.length + 1 : Nat) : Int)) = True := eq_true (by omega)
    have e1 := B9o (gone := gone) hv
    rw [ht, hu, Int.toNat_natCast, Int.toNat_natCast] at e1
    have fin := fun s' vm2 m2 => ih s' (k + 1, vm2, m2) (by dsimp only; omega) (by dsimp only; omega)
    dsimp only at fin
    rw [e1] at fin
    by_cases d : J2 gone t = J2 gone u
    ·have d1 : ((J2 gone t : Int) = (J2 gone u : Int)) = True := eq_true (by omega)
     simp only [d, if_true] at fin
     simp -implicitDefEqProofs only [go_sem, c, k0, k1, k4, k5, k6, k7, k8, k9, hlV, hzV, hvr, ht, hu, hNl, hNt, hNu, d1, hdel, Nat.reduceDiv, Option.some.injEq, forall_eq']
     exact ⟨⟨by omega, by omega⟩, fin _ vm (m + 1) (.turn id ⟨.refl _, .refl _, .refl _, .refl _, .refl _, .refl _, .refl _, .refl _, .refl _, trivial⟩ (.at 1 rfl rfl (.refl _) (.at 2 rfl rfl (.refl _) (.at 3 rfl rfl (.refl _) (.at 4 rfl rfl (.refl _) (.at 5 rfl rfl (.refl _) (.at 6 rfl rfl (.refl _) (.of fun e he => ⟨e, by simp [he], rfl, rfl, .refl _⟩))))))))⟩
    ·have d1 : ((J2 gone t : Int) = (J2 gone u : Int)) = False := eq_false (by omega)
     simp only [d, if_false] at fin
     have hle : ((A1v gone p.vars k).length ≤ 137438953471) = True := eq_true (by omega)
     simp -implicitDefEqProofs only [go_sem, c, k0, k1, k4, k5, k6, k7, k8, k9, hlV, hzV, hvr, ht, hu, hNl, hNt, hNu, d1, hle, hdel, Nat.reduceDiv, Option.some.injEq, forall_eq']
     exact ⟨⟨by omega, by omega⟩, fin _ (m + 1) (m + 1 + 1) (.turn id ⟨.refl _, .refl _, .refl _, .sl' (by simp), .refl _, .refl _, .refl _, .refl _, .refl _, trivial⟩ (.at 0 rfl rfl (.of_eq (by simp [Vr.row, A5S, ht, hu])) (.at 2 rfl rfl (.refl _) (.at 3 rfl rfl (.refl _) (.at 4 rfl rfl (.refl _) (.at 5 rfl rfl (.refl _) (.at 6 rfl rfl (.refl _) (.of fun e he => ⟨e, by simp [he], rfl, rfl, .refl _⟩))))))))⟩
   ·obtain rfl : k = p.vars.length := by omega
    simp -implicitDefEqProofs only [go_sem, c, hdel, Nat.reduceDiv]
    have hrow : V.agg (E2 gone p).row = .agg [.str p.name, .int .i64 p.line, .int .i64 p.params, .bool p.vararg, .int .i64 p.regs, .isl ((K.map (A0f gone)).map Ins.row), .isl (LL.map D2), .isl KR, .isl PR, .isl UR, .isl ((A1v gone p.vars p.vars.length).map Vr.row)] := by
     rw [Fn.row_eq, C2r]
     unfold E2
     dsimp only
     rw [hKK, hLL, hKR, hPR, hUR]
    rw [hrow] at hQ
    subst hQ
    have hLl : lm = (LL.map D2).length := by
     rw [List.length_map, ← hLL, ← hlm]
     by_cases hz : p.lines.length = 0
     ·rw [if_pos hz, if_pos hz]; rfl
     ·rw [if_neg hz, if_neg hz, p7 gone p.lines _ (by have := hok.lines.resolve_right hz; omega), hmm]
    have hjl : j = ((K.map (A0f gone)).map Ins.row).length := by simp [hkl]
    have hvl : (A1v gone p.vars p.vars.length).length = ((A1v gone p.vars p.vars.length).map Vr.row).length := by simp
    generalize (K.map (A0f gone)).map Ins.row = R1 at *
    generalize LL.map D2 = R2 at *
    generalize hR3 : (A1v gone p.vars p.vars.length).map Vr.row = R3 at *
    rw [hvl, hLl]
    rw [hjl] at *
    refine u9.to (r2 := .agg [.str p.name, .int .i64 p.line, .int .i64 p.params, .bool p.vararg, .int .i64 p.regs, .isl R1, .isl R2, .isl KR, .isl PR, .isl UR, .isl R3]) (h2 := h0) (n2 := m) ⟨rfl, rfl⟩ ?_
    refine Wk.trans (b := ⟨[(0, .agg [.str p.name, .int .i64 p.line, .int .i64 p.params, .bool p.vararg, .int .i64 p.regs, .sl (rN 41) sc 0 R1.length, .sl (rN 53) sl 0 R2.length, .isl KR, .isl PR, .isl UR, .isl R3])], (rN 41, sc, .rows 5 R1) :: (rN 53, sl, .rows 1 R2) :: h0, m⟩) (.freeze (b := rN 111) (st := vm) (sz := 5) (rs := R3) (by simp) ⟨Frz.agg ⟨.of (.refl _), .of (.refl _), .of (.refl _), .of (.refl _), .of (.refl _), .of (.refl _), .of (.refl _), .of (.refl _), .of (.refl _), .of (.refl _), Frz.all rfl, trivial⟩, trivial⟩ (A3V.of fun e he => ?_)) ?_
    ·simp only [List.mem_cons] at he
     rcases he with rfl | rfl | he
     ·exact ⟨by simp, by dsimp only; decide⟩
     ·exact ⟨by simp, by dsimp only; decide⟩
     ·exact ⟨by simp [he], hap _ (by decide) e he⟩
    refine Wk.trans (b := ⟨[(0, .agg [.str p.name, .int .i64 p.line, .int .i64 p.params, .bool p.vararg, .int .i64 p.regs, .isl R1, .sl (rN 53) sl 0 R2.length, .isl KR, .isl PR, .isl UR, .isl R3])], (rN 53, sl, .rows 1 R2) :: h0, m⟩) (.freeze (b := rN 41) (st := sc) (sz := 5) (rs := R1) (by simp) ⟨Frz.agg ⟨.of (.refl _), .of (.refl _), .of (.refl _), .of (.refl _), .of (.refl _), Frz.all rfl, .of (.refl _), .of (.refl _), .of (.refl _), .of (.refl _), .of (.refl _), trivial⟩, trivial⟩ (A3V.of fun e he => ?_)) ?_
    ·simp only [List.mem_cons] at he
     rcases he with rfl | he
     ·exact ⟨by simp, by dsimp only; decide⟩
     ·exact ⟨by simp [he], hap _ (by decide) e he⟩
    refine .freeze (b := rN 53) (st := sl) (sz := 1) (rs := R2) (by simp) ⟨Frz.agg ⟨.of (.refl _), .of (.refl _), .of (.refl _), .of (.refl _), .of (.refl _), .of (.refl _), Frz.all rfl, .of (.refl _), .of (.refl _), .of (.refl _), .of (.refl _), trivial⟩, trivial⟩ (A3V.of fun e he => ⟨by simp [he], hap _ (by decide) e he⟩)
end Go.Proofs.YtoanghfeednogaaGreatDoor
