/-
 The states of a function: the rounds of 'states'. No condition.
-/
import Derived.Test.YtilggmmkmegefaaGreatDoorVerP2
set_option linter.unusedVariables false
set_option linter.unusedSimpArgs false
set_option maxRecDepth 100000
set_option maxHeartbeats 0
namespace Go.Proofs.YtilggmmkmegefaaGreatDoor
open Go.Abs
attribute [local irreducible] A4 Run
-- EV: Ins.v, Ins.row
theorem Q4.mapF {es es2 : List (V × V)} (hl : es2.length = es.length) (hr : ∀ (i : Nat) p2, es2[i]? = some p2 → ∃ p, es[i]? = some p ∧ F3 p.1 p2.1 ∧ F3 p.2 p2.2) : Q4 (.map es) (.map es2) := by
 rintro E st ⟨h1, mes, clock, h2, h3, h4, h5⟩
 refine ⟨h1, mes, clock, h2, h3.trans hl.symm, fun i p2 m hi hm => ?_, h5⟩
 obtain ⟨p, hp, g1, g2⟩ := hr i p2 hi
 obtain ⟨k1, k2, k3⟩ := h4 i p m hp hm
 exact ⟨g1 _ _ k1, g2 _ _ k2, k3⟩
theorem Wk.sub' {r : V} {h h2 : A2} {n : Nat} (hs : ∀ e ∈ h2, e ∈ h) : Wk ⟨[(0, r)], h, n⟩ ⟨[(0, r)], h2, n⟩ := D1.wk ⟨fun p hp => by rw [List.mem_singleton.1 hp]; rfl, hs, Nat.le_refl _⟩
structure Kn (N n : Nat) (l : List Nat) (M : Nat → Option Stt) : Prop where
 nd : l.Nodup
 mem : ∀ k, k ∈ l ↔ (M k).isSome = true
 lt : ∀ k ∈ l, k < n
 out : ∀ k s, M k = some s → ∀ r, N ≤ r → s.set r = false
 ml : ∀ k s, M k = some s → s.marks.length ≤ l.length
theorem Kn.len {N n : Nat} {l : List Nat} {M : Nat → Option Stt} (h : Kn N n l M) : l.length ≤ n := by
 have := B0Z l (List.range n) h.nd fun x hx => List.mem_range.2 (h.lt x hx)
 simpa using this
theorem Kn.no {N n : Nat} {l : List Nat} {M : Nat → Option Stt} (h : Kn N n l M) {k : Nat} (hk : M k = none) : k ∉ l := fun hm => by
 have := (h.mem k).1 hm
 rw [hk] at this; cases this
theorem Kn.yes {N n : Nat} {l : List Nat} {M : Nat → Option Stt} (h : Kn N n l M) {k : Nat} {s : Stt} (hk : M k = some s) : k ∈ l := (h.mem k).2 (by rw [hk]; rfl)
theorem B5N (i : Ins) (m : List Int) : (S4 i m).length ≤ m.length + 1 := by
 unfold S4
 split
 ·simp
 split
 ·exact Nat.le_trans (List.length_filter_le _ _) (Nat.le_succ _)
 ·exact Nat.le_succ _
theorem Kn.new {N n : Nat} {l : List Nat} {M : Nat → Option Stt} (h : Kn N n l M) {b : Nat} {s : Stt} (hb : M b = none) (hbn : b < n) (ho : ∀ r, N ≤ r → s.set r = false) (hm : s.marks.length ≤ l.length + 1) : Kn N n (l ++ [b]) (J4 M b s) := by
 refine ⟨?_, fun k => ?_, fun k hk => ?_, fun k t ht r hr => ?_, fun k t ht => ?_⟩
 ·refine List.nodup_append.2 ⟨h.nd, by simp, fun x hx y hy => ?_⟩
  rw [List.mem_singleton.1 hy]
  intro e; subst e
  exact h.no hb hx
 ·unfold J4
  by_cases c : k = b
  ·subst c; simp
  ·rw [if_neg c, ← h.mem k]; simp [c]
 ·rcases List.mem_append.1 hk with hk | hk
  ·exact h.lt k hk
  ·rw [List.mem_singleton.1 hk]; exact hbn
 ·unfold J4 at ht
  by_cases c : k = b
  ·rw [if_pos c] at ht; injection ht with ht; subst ht; exact ho r hr
  ·rw [if_neg c] at ht; exact h.out k t ht r hr
 ·rw [List.length_append, List.length_singleton]
  unfold J4 at ht
  by_cases c : k = b
  ·rw [if_pos c] at ht; injection ht with ht; subst ht; exact hm
  ·rw [if_neg c] at ht; have := h.ml k t ht; omega
theorem Kn.join {N n : Nat} {l : List Nat} {M : Nat → Option Stt} (h : Kn N n l M) {b : Nat} {t o : Stt} (hb : M b = some t) : Kn N n l (J4 M b (U8 t o)) := by
 refine ⟨h.nd, fun k => ?_, h.lt, fun k t' ht r hr => ?_, fun k t' ht => ?_⟩
 ·unfold J4
  by_cases c : k = b
  ·subst c; simp; exact h.yes hb
  ·rw [if_neg c]; exact h.mem k
 ·unfold J4 at ht
  by_cases c : k = b
  ·rw [if_pos c] at ht; injection ht with ht; subst ht
   simp only [U8]; rw [h.out b t hb r hr]; rfl
  ·rw [if_neg c] at ht; exact h.out k t' ht r hr
 ·unfold J4 at ht
  by_cases c : k = b
  ·rw [if_pos c] at ht; injection ht with ht; subst ht; exact h.ml b t hb
  ·rw [if_neg c] at ht; exact h.ml k t' ht
theorem Kn.zero {N n : Nat} {params : Int} (hn : 0 < n) : Kn N n [0] (M0 N params) := by
 refine ⟨by simp, fun k => ?_, fun k hk => by rw [List.mem_singleton.1 hk]; exact hn, fun k s hs r hr => ?_, fun k s hs => ?_⟩
 ·unfold M0
  by_cases c : k = 0 <;> simp [c]
 ·unfold M0 at hs
  by_cases c : k = 0
  ·rw [if_pos c] at hs; injection hs with hs; subst hs
   have : ¬ r < N := by omega
   simp [B3Z, this]
  ·rw [if_neg c] at hs; cases hs
 ·unfold M0 at hs
  by_cases c : k = 0
  ·rw [if_pos c] at hs; injection hs with hs; subst hs; simp [B3Z]
  ·rw [if_neg c] at hs; cases hs
theorem B9V {N n : Nat} {l : List Nat} {M : Nat → Option Stt} (h : Kn N n l M) {b : Nat} {t o : Stt} (hb : M b = some t) (hbn : b < n) :
  ((List.range N).any (fun r => t.set r && !o.set r) = false → J4 M b (U8 t o) = M) ∧ ((List.range N).any (fun r => t.set r && !o.set r) = true → mu N n (J4 M b (U8 t o)) < mu N n M) := by
 refine ⟨fun h0 => ?_, fun h1 => ?_⟩
 ·rw [B7x (N := N) (fun r hr ht => ?_) (h.out b t hb), B8Y hb]
  have := List.any_eq_false.1 h0 r (List.mem_range.2 hr)
  cases ho : o.set r with
  | true => rfl
  | false => simp [ht, ho] at this
 ·obtain ⟨r, hr, h2⟩ := List.any_eq_true.1 h1
  rw [Bool.and_eq_true] at h2
  exact C3t hbn hb (List.mem_range.1 hr) h2.1 (by simpa using h2.2)
theorem B4F (N : Nat) (code : List Ins) (params : Int) (pr : List V) (h11 : pr.length = 11) (ht11 : pr.take 11 = pr) (h5 : pr[5]? = some (.isl (code.map Ins.row))) (h4 : pr[4]? = some (.int .i64 N)) (h2 : pr[2]? = some (.int .i64 params)) (hsub : ∀ d h, pr.map (frz d h) = pr)
  (hc : code.length ≤ 100000) (hc0 : 0 < code.length) (hN : N ≤ 100000) (hp0 : 0 ≤ params) (hp1 : params ≤ N) (hfit : ∀ i ∈ code, Fit N i) (n : Nat) :
  A4 Tryz.prog 64 [.agg pr, .isl ((D6 code).map s9)] [] n fun r h' n' => ∃ st L, r = .mp (64 * 10000 + 14) st ∧ h' = [((64 * 10000 + 14), st, .map (I0 L (P3 N (stM N code params))))] ∧ Kn N code.length L (stM N code params) ∧ A4Y N code params (stM N code params) := by
 have hent := B6U pr h11 ht11 N params h4 h2 N rfl hN hp0 hp1
 have hpl : ∀ (a : Nat) (i : Ins) (ha : code[a]? = some i) (b : Int) (s : Stt) (hm : s.marks.length ≤ 1000000), _ := fun a i ha b s hm => A9S N code pr h11 ht11 h5 a i ha b (by omega) s hN (hfit i (List.mem_of_getElem? ha)) hm
 have lE : ((D6 code).map s9).length = (D6 code).length := List.length_map ..
 have zE := B7o s9 2 (fun _ => rfl) (D6 code)
 have rE : ∀ (k : Nat) e, (D6 code)[k]? = some e → ((D6 code).map s9)[k]? = some [.int .i64 (e.1 : Nat), .int .i64 e.2] := fun k e hk => by rw [List.getElem?_map, hk]; rfl
 have hElen : (D6 code).length ≤ 2 * code.length := B1P code code.length
 have hEin := fun e (h : e ∈ D6 code) => B6l h
 generalize hE : (D6 code).map s9 = ER at *
 refine A4.enterK A2G (Nat.le_of_ble_eq_true rfl) fun Q hQ => Run.go 100 ?_
 simp -implicitDefEqProofs only [go_sem, Ins.v, Ins.row, B3, h11, ht11]
 refine A4.at [] [0, 1] (hent _) rfl rfl ?_
 rintro r h' n1 hn1 ⟨st0, rfl, rfl⟩
 simp -implicitDefEqProofs only [go_sem, Ins.v, Ins.row, h11, ht11]
 refine Run.keep [6, 5, 2, 1] ?_
 have hkn := fun l M (hk : Kn N code.length l M) => hk.len
 refine Run.roundsK (fun (x : List Nat × (Nat → Nat) × (Nat → Option Stt) × Bool × Nat) => ⟨[(6, .bool x.2.2.2.1), (5, .mp (64 * 10000 + 14) (n + 1)), (2, .ptr (64 * 10000 + 2) n 0 0), (1, .isl ER)],
   ((64 * 10000 + 14), n + 1, .map (I0 x.1 (K0 N x.2.1 x.2.2.1))) :: ((64 * 10000 + 2), n, .rows 11 [pr]) :: W7 (Z8 N x.2.2.1) x.2.1 x.1, x.2.2.2.2⟩)
  (fun x => Kn N code.length x.1 x.2.2.1 ∧ (∃ j, x.2.2.1 = A6F N code params j) ∧ (x.2.2.2.1 = false → A7E N code x.2.2.1 = x.2.2.1)) (fun x => 2 * mu N code.length x.2.2.1 + (if x.2.2.2.1 then 1 else 0)) ([0], (fun _ => st0), M0 N params, true, n1) ?_ ⟨Kn.zero hc0, ⟨0, rfl⟩, fun h => absurd h (by simp)⟩ ?_
 ·have e0 : I0 [0] (K0 N (fun _ => st0) (M0 N params)) = [(.int .i64 0, .agg [.sl (1000000000000 + 0) st0 0 N, .int .i64 (-1), .isl []])] := rfl
  have e1 : W7 (Z8 N (M0 N params)) (fun _ => st0) [0] = [(1000000000000 + 0, st0, .rows 1 (C0 N (B3Z N params).set))] := rfl
  simp only [e0, e1]
  refine .turn (fun x => if x = (79 * 10000 + 7) then 1000000000000 + 0 else x) ⟨.refl _, .refl _, .refl _, .refl _, trivial⟩ (.at 0 rfl rfl (Q4.mapF rfl fun i p2 hi => ?_) (.at 2 rfl rfl (.refl _) (.at 1 rfl rfl (.refl _) trivial)))
  cases i with
  | zero =>
   simp only [List.getElem?_cons_zero, Option.some.injEq] at hi
   subst hi
   exact ⟨_, rfl, .refl _, .agg ⟨.sl, .refl _, .refl _, trivial⟩⟩
  | succ i => simp at hi
 rintro ⟨l, S, M, ch, m⟩ ⟨hK, hit, hfix⟩ ih
 simp only at hK hit hfix ih ⊢
 refine Run.unf A6u (Run.go 100 ?_)
 cases ch with
 | false =>
  have hst : A4Y N code params M := by
   obtain ⟨j, hj⟩ := hit
   exact ⟨j, hj, hfix rfl⟩
  simp -implicitDefEqProofs only [go_sem, Ins.v, Ins.row]
  have hS := C5A hst
  subst hQ
  refine .to (n2 := m) ⟨n + 1, l, rfl, rfl, hS ▸ hK, hS ▸ hst⟩ ?_
  rw [← hS]
  have w1 : Wk ⟨[(0, .mp (64 * 10000 + 14) (n + 1))], ((64 * 10000 + 14), n + 1, .map (I0 l (K0 N S M))) :: ((64 * 10000 + 2), n, .rows 11 [pr]) :: W7 (Z8 N M) S l, m⟩
    ⟨[(0, .mp (64 * 10000 + 14) (n + 1))], ((64 * 10000 + 14), n + 1, .map (I0 l fun k => if k ∈ l then K0 N S M k else P3 N M k)) :: W7 (Z8 N M) S l, m⟩ := by
   have : (I0 l fun k => if k ∈ l then K0 N S M k else P3 N M k) = I0 l (K0 N S M) := A7B fun x hx => by rw [if_pos hx]
   rw [this]
   refine Wk.sub' fun e he => ?_
   simp only [List.mem_cons] at he ⊢
   rcases he with h | h <;> simp only [h, eq_self, true_or, or_true]
  exact w1.trans (B1K N _ _ _ (by decide) S M l (fun k hk => (hK.mem k).1 hk) l hK.nd fun k hk => hk)
 | true =>
  simp -implicitDefEqProofs only [go_sem, Ins.v, Ins.row, lE]
  refine Run.keep [21, 20, 19, 6, 5, 2, 1] ?_
  refine Run.roundsK (fun (y : Nat × List Nat × (Nat → Nat) × (Nat → Option Stt) × Bool × Nat) => ⟨[(21, .int .i64 y.1), (20, .int .i64 (D6 code).length), (19, .isl ER), (6, .bool y.2.2.2.2.1), (5, .mp (64 * 10000 + 14) (n + 1)), (2, .ptr (64 * 10000 + 2) n 0 0), (1, .isl ER)],
    ((64 * 10000 + 14), n + 1, .map (I0 y.2.1 (K0 N y.2.2.1 y.2.2.2.1))) :: ((64 * 10000 + 2), n, .rows 11 [pr]) :: W7 (Z8 N y.2.2.2.1) y.2.2.1 y.2.1, y.2.2.2.2.2⟩)
   (fun y => y.1 ≤ (D6 code).length ∧ Kn N code.length y.2.1 y.2.2.2.1 ∧ y.2.2.2.1 = ((D6 code).take y.1).foldl (L7 N code) M ∧ (y.2.2.2.2.1 = false → y.2.2.2.1 = M) ∧ (y.2.2.2.2.1 = true → mu N code.length y.2.2.2.1 < mu N code.length M)) (fun y => (D6 code).length - y.1) (0, l, S, M, false, m) (D1.wk (D1.of (by simp -implicitDefEqProofs only [go_sem, Ins.v, Ins.row]) (fun e he => he) (by simp -implicitDefEqProofs only [go_sem, Ins.v, Ins.row]))) ⟨Nat.zero_le _, hK, rfl, fun _ => rfl, fun h => absurd h (by simp)⟩ ?_
  rintro ⟨k, l1, S1, M1, ch, m1⟩ ⟨hk, hK1, hM1, hc1, hd1⟩ ih2
  simp only at hk hK1 hM1 hc1 hd1 ih2 ⊢
  refine Run.unf A6y (Run.go 100 ?_)
  by_cases hlk : k < (D6 code).length
  case neg =>
   have ek : k = (D6 code).length := by omega
   subst ek
   rw [List.take_length] at hM1
   have hrd : M1 = A7E N code M := hM1
   simp -implicitDefEqProofs only [go_sem, Ins.v, Ins.row, Int.lt_irrefl]
   refine ih _ (l1, S1, M1, ch, m1) ⟨hK1, ?_, fun h => ?_⟩ ?_ (D1.wk (D1.of (by simp -implicitDefEqProofs only [go_sem, Ins.v, Ins.row]) (fun e he => he) (Nat.le_refl _)))
   ·obtain ⟨j, hj⟩ := hit
    exact ⟨j + 1, by rw [A6F, ← hj]; exact hrd⟩
   ·simp only at h ⊢
    rw [hc1 h] at hrd ⊢; exact hrd.symm
   ·simp only
    cases ch with
    | true => have := hd1 rfl; simp; omega
    | false => rw [hc1 rfl]; simp
  have w0 : ((k : Int) < ((D6 code).length : Int)) = True := eq_true (by omega)
  have w1 : ((0 : Int) ≤ (k : Int)) = True := eq_true (by omega)
  obtain ⟨⟨a, b⟩, hx⟩ : ∃ e, (D6 code)[k]? = some e := ⟨(D6 code)[k], by simp [hlk]⟩
  have hxr := rE k _ hx
  obtain ⟨han, hbx, hb0, hbn⟩ := hEin _ (List.mem_of_getElem? hx)
  simp only at hxr han hbx hb0 hbn
  obtain ⟨B, rfl⟩ : ∃ B : Nat, b = B := ⟨b.toNat, by omega⟩
  have hBn : B < code.length := by omega
  obtain ⟨i, hi⟩ : ∃ i, code[a]? = some i := ⟨code[a], by simp [han]⟩
  have hins : O7 code a = i := by unfold O7; rw [List.getD_eq_getElem?_getD, hi]; rfl
  have hstep : ((D6 code).take (k + 1)).foldl (L7 N code) M = L7 N code M1 (a, (B : Int)) := by rw [List.take_add_one, hx, List.foldl_append, ← hM1]; rfl
  have hzk : ((k + 1 : Nat) : Int) = (k : Int) + 1 := by omega
  have hok : ∀ z : Int, A0c (.int .i64 z) (I0 l1 (K0 N S1 M1)) = True := fun z => eq_true ((A9s _ _).ok z)
  have hfd := fun (b : Nat) hb => C2x (F := Z8 N M1) (S := S1) (l := l1) (b := b) hb
  cases hMa : M1 a with
  | none =>
   have hfa := B4x (F := K0 N S1 M1) (hK1.no hMa)
   have hst : L7 N code M1 (a, (B : Int)) = M1 := by simp only [L7, hMa]
   have fin := fun s m2 => ih2 s (k + 1, l1, S1, M1, ch, m2) ⟨by simp only; omega, hK1, by simp only; rw [hstep, hst], hc1, hd1⟩ (by simp only; omega)
   simp only at fin
   generalize I0 l1 (K0 N S1 M1) = es at *
   generalize W7 (Z8 N M1) S1 l1 = fm at *
   simp -implicitDefEqProofs only [go_sem, Ins.v, Ins.row, w0, w1, lE, zE, hxr, hlk, hfa, hok, hfd, Option.some.injEq, forall_eq']
   refine ⟨by omega, fin _ (m1 + 1 + 1) (D1.wk (D1.of (by simp -implicitDefEqProofs only [go_sem, Ins.v, Ins.row, hzk]) (fun e he => ?_) (Nat.le_refl _)))⟩
   simp only [List.mem_cons] at he ⊢
   rcases he with h | h | h <;> simp only [h, eq_self, true_or, or_true]
  | some s =>
   have hal1 := hK1.yes hMa
   have hfa : R0 (.int .i64 (a : Nat)) (I0 l1 (K0 N S1 M1)) = some (.agg [.sl (1000000000000 + a) (S1 a) 0 N, .int .i64 s.opn, .isl (s.marks.map zrw)]) := by
    rw [A8f hal1]; simp only [K0, hMa, t8]
   have hfg : A2.get (W7 (Z8 N M1) S1 l1) (1000000000000 + a) (S1 a) = some (.rows 1 (C0 N s.set)) := by
    rw [B6s hal1]; simp only [Z8, hMa]
   have hbqa : ∀ k : Nat, k < 1000000000000 → (k = 1000000000000 + a) = False := fun k h => eq_false (by omega)
   have hbqa2 : ∀ k : Nat, k < 1000000000000 → (1000000000000 + a = k) = False := fun k h => eq_false (by omega)
   have hml := hK1.ml a s hMa
   have hll := hK1.len
   have hcal := hpl a i hi (B : Int) s (by omega)
   have hsz := fun d h => (F1 (d := d) (h := h)).elim fun φ e => show (s.marks.map zrw).map (fun r => r.map (frz d h)) = s.marks.map zrw by rw [e]; exact A0e φ _
   have hsb := fun d h => (F1 (d := d) (h := h)).elim fun φ e => show (C0 N s.set).map (fun r => r.map (frz d h)) = C0 N s.set by rw [e]; exact A2L φ _ _
   have hlb := G0 N s.set
   have hout := fun r (hr : N ≤ r) => B9K (N := N) (i := i) (a := a) (b := (B : Int)) (s := s) hr
   have hmlo : (D9 N i a (B : Int) s).marks.length ≤ l1.length + 1 := by rw [A5X]; have := B5N i s.marks; omega
   have hfn0 : ∀ e ∈ W7 (Z8 N M1) S1 l1, 1000000000000 ≤ e.1 := fun e he => by obtain ⟨j, _, rfl⟩ := o8.1 he; simp only [A9B]; omega
   cases hMb : M1 B with
   | none =>
    have hBl := hK1.no hMb
    have hfb := B4x (F := K0 N S1 M1) hBl
    have hst : L7 N code M1 (a, (B : Int)) = J4 M1 B (D9 N i a (B : Int) s) := by simp only [L7, hMa, Int.toNat_natCast, hMb, hins]
    have hKn := hK1.new hMb hBn hout hmlo
    have hmu := C6E (N := N) (s := D9 N i a (B : Int) s) hBn hMb
    have hmset : ∀ st, A3H (.int .i64 (B : Nat)) (t8 (.sl (1000000000000 + B) st 0 N) (D9 N i a (B : Int) s)) (I0 l1 (K0 N S1 M1)) = I0 (l1 ++ [B]) (K0 N (fun j => if j = B then st else S1 j) (J4 M1 B (D9 N i a (B : Int) s))) := fun st => by
     refine B4W hBl (fun x hx => ?_) ?_
     ·have hxB : x ≠ B := fun e => hBl (e ▸ hx)
      simp only [K0, J4, if_neg hxB]
     ·simp only [K0, J4, if_true]
    have hfam : ∀ st, W7 (Z8 N (J4 M1 B (D9 N i a (B : Int) s))) (fun j => if j = B then st else S1 j) (l1 ++ [B]) = W7 (Z8 N M1) S1 l1 ++ [(1000000000000 + B, st, .rows 1 (C0 N (D9 N i a (B : Int) s).set))] := fun st => by
     rw [C0j (F := Z8 N M1) (S := S1) fun j hj => ?_]
     ·simp only [Z8, J4, if_true]
     ·have hjB : j ≠ B := fun e => hBl (e ▸ hj)
      simp only [Z8, J4, if_neg hjB, and_self]
    have hfn : ∀ e ∈ W7 (Z8 N M1) S1 l1, e.1 ≠ 1000000000000 + B := fun e he => by
     obtain ⟨j, hj, rfl⟩ := o8.1 he
     have hjB : j ≠ B := fun e => hBl (e ▸ hj)
     simp only [A9B]; omega
    have fin := fun sg st m2 => ih2 sg (k + 1, l1 ++ [B], (fun j => if j = B then st else S1 j), J4 M1 B (D9 N i a (B : Int) s), true, m2) ⟨by simp only; omega, hKn, by simp only; rw [hstep, hst], fun h => absurd h (by simp), fun _ => by
     simp only
     cases ch with
     | true => have := hd1 rfl; omega
     | false => rw [hc1 rfl] at hmu ⊢; exact hmu⟩ (by simp only; omega)
    simp only [hfam, ← hmset] at fin
    generalize hes : I0 l1 (K0 N S1 M1) = es at *
    generalize W7 (Z8 N M1) S1 l1 = fm at *
    generalize C0 N s.set = FSs at *
    simp -implicitDefEqProofs only [go_sem, Ins.v, Ins.row, w0, w1, lE, zE, hxr, hlk, hfa, hok, hfd, h11, ht11, Option.some.injEq, forall_eq']
    have hap : ∀ (x : Nat), (x < 1000000000000 → x ≠ (64 * 10000 + 9) ∧ x ≠ (64 * 10000 + 8) ∧ x ≠ (64 * 10000 + 14) ∧ x ≠ (64 * 10000 + 2)) → (∀ e ∈ fm, e.1 ≠ x) → ∀ X1 X2 X3 X4 y1 y2 y3 y4, ∀ e ∈ (((64 * 10000 + 9), y1, X1) :: ((64 * 10000 + 8), y2, X2) :: ((64 * 10000 + 14), y3, X3) :: ((64 * 10000 + 2), y4, X4) :: fm : A2), e.1 ≠ x := by
     intro x hx hxf X1 X2 X3 X4 y1 y2 y3 y4 e he
     simp only [List.mem_cons] at he
     by_cases c : x < 1000000000000
     ·obtain ⟨d1, d2, d3, d4⟩ := hx c
      rcases he with h | h | h | h | h
      ·rw [h]; exact d1.symm
      ·rw [h]; exact d2.symm
      ·rw [h]; exact d3.symm
      ·rw [h]; exact d4.symm
      ·exact hxf e h
     ·rcases he with h | h | h | h | h
      ·rw [h]; simp only; omega
      ·rw [h]; simp only; omega
      ·rw [h]; simp only; omega
      ·rw [h]; simp only; omega
      ·exact hxf e h
    refine hcal _ _ _ 1 _ ?_ (1000000000000 + B) (hap _ (fun h => by omega) hfn _ _ _ _ _ _ _ _) (hap _ (fun h => by decide) (fun e he => by have := hfn0 e he; omega) _ _ _ _ _ _ _ _) (hap _ (fun h => by decide) (fun e he => by have := hfn0 e he; omega) _ _ _ _ _ _ _ _) ?_
    ·have htk : FSs.take N = FSs := List.take_of_length_le (by omega)
     simp -implicitDefEqProofs only [go_sem, Ins.v, Ins.row, hsub, hfg, hsz, hsb, hlb, htk, hbqa, hbqa2, t8]
    intro st n' hn'
    have hbqB : ∀ k : Nat, k < 1000000000000 → (k = 1000000000000 + B) = False := fun k h => eq_false (by omega)
    have hbqB2 : ∀ k : Nat, k < 1000000000000 → (1000000000000 + B = k) = False := fun k h => eq_false (by omega)
    simp -implicitDefEqProofs only [go_sem, Ins.v, Ins.row, hok, hfb, hfd, hbqB, hbqB2, t8]
    refine ⟨by omega, fin _ st (n' + 1 + 1) (D1.wk (D1.of (by simp -implicitDefEqProofs only [go_sem, Ins.v, Ins.row, hzk]) (fun e he => ?_) (Nat.le_refl _)))⟩
    simp only [t8, List.mem_cons, List.mem_append, List.not_mem_nil, or_false] at he ⊢
    rcases he with h | h | h | h <;> simp only [h, eq_self, true_or, or_true]
   | some t =>
    have hbl1 := hK1.yes hMb
    have hfb : R0 (.int .i64 (B : Nat)) (I0 l1 (K0 N S1 M1)) = some (.agg [.sl (1000000000000 + B) (S1 B) 0 N, .int .i64 t.opn, .isl (t.marks.map zrw)]) := by
     rw [A8f hbl1]; simp only [K0, hMb, t8]
    have hmemB : (1000000000000 + B, S1 B, Blk.rows 1 (C0 N t.set)) ∈ W7 (Z8 N M1) S1 l1 := o8.2 ⟨B, hbl1, by simp only [A9B, Z8, hMb]⟩
    have hst : L7 N code M1 (a, (B : Int)) = J4 M1 B (U8 t (D9 N i a (B : Int) s)) := by simp only [L7, hMa, Int.toNat_natCast, hMb, hins]
    have hKn := hK1.join (o := D9 N i a (B : Int) s) hMb
    obtain ⟨hj0, hj1⟩ := B9V (o := D9 N i a (B : Int) s) hK1 hMb hBn
    have hcells : I0 l1 (K0 N S1 (J4 M1 B (U8 t (D9 N i a (B : Int) s)))) = I0 l1 (K0 N S1 M1) := A7B fun x hx => by
     by_cases c : x = B
     ·subst c; simp only [K0, J4, if_true, hMb, U8, t8]
     ·simp only [K0, J4, if_neg c]
    have hput : ∀ e ∈ W7 (Z8 N (J4 M1 B (U8 t (D9 N i a (B : Int) s)))) S1 l1, e = (1000000000000 + B, S1 B, .rows 1 (C0 N fun r => t.set r && (D9 N i a (B : Int) s).set r)) ∨ e ∈ A2.del (W7 (Z8 N M1) S1 l1) (1000000000000 + B) := fun e he => by
     rcases C1Q (F := Z8 N M1) (b := B) (fun j _ hjB => by simp only [Z8, J4, if_neg hjB]) he with h | h
     ·left; rw [h]; simp only [Z8, J4, if_true, U8]
     ·exact .inr h
    have fin := fun (ch' : Bool) (hch : (ch' = false → J4 M1 B (U8 t (D9 N i a (B : Int) s)) = M) ∧ (ch' = true → mu N code.length (J4 M1 B (U8 t (D9 N i a (B : Int) s))) < mu N code.length M)) sg m2 => ih2 sg (k + 1, l1, S1, J4 M1 B (U8 t (D9 N i a (B : Int) s)), ch', m2) ⟨by simp only; omega, hKn, by simp only; rw [hstep, hst], hch.1, hch.2⟩ (by simp only; omega)
    simp only [hcells] at fin
    have hjc := B9S N t.set (D9 N i a (B : Int) s).set hN B (S1 B)
    generalize ((List.range N).any fun r => t.set r && !(D9 N i a (B : Int) s).set r) = jc at *
    generalize hes : I0 l1 (K0 N S1 M1) = es at *
    generalize W7 (Z8 N (J4 M1 B (U8 t (D9 N i a (B : Int) s)))) S1 l1 = fm2 at *
    generalize W7 (Z8 N M1) S1 l1 = fm at *
    generalize C0 N s.set = FSs at *
    simp -implicitDefEqProofs only [go_sem, Ins.v, Ins.row, w0, w1, lE, zE, hxr, hlk, hfa, hok, hfd, h11, ht11, Option.some.injEq, forall_eq']
    have hap : ∀ (x : Nat), x < 1000000000000 → x ≠ (64 * 10000 + 9) ∧ x ≠ (64 * 10000 + 8) ∧ x ≠ (64 * 10000 + 14) ∧ x ≠ (64 * 10000 + 2) → ∀ X1 X2 X3 X4 y1 y2 y3 y4, ∀ e ∈ (((64 * 10000 + 9), y1, X1) :: ((64 * 10000 + 8), y2, X2) :: ((64 * 10000 + 14), y3, X3) :: ((64 * 10000 + 2), y4, X4) :: fm : A2), e.1 ≠ x := by
     intro x hx ⟨d1, d2, d3, d4⟩ X1 X2 X3 X4 y1 y2 y3 y4 e he
     simp only [List.mem_cons] at he
     rcases he with h | h | h | h | h
     ·rw [h]; exact d1.symm
     ·rw [h]; exact d2.symm
     ·rw [h]; exact d3.symm
     ·rw [h]; exact d4.symm
     ·have := hfn0 e h; omega
    refine hcal _ _ _ 1 _ ?_ (98 * 10000 + 5) (hap _ (by decide) (by decide) _ _ _ _ _ _ _ _) (hap _ (by decide) (by decide) _ _ _ _ _ _ _ _) (hap _ (by decide) (by decide) _ _ _ _ _ _ _ _) ?_
    ·have htk : FSs.take N = FSs := List.take_of_length_le (by omega)
     simp -implicitDefEqProofs only [go_sem, Ins.v, Ins.row, hsub, hfg, hsz, hsb, hlb, htk, hbqa, hbqa2, t8]
    intro st n' hn'
    have hbqB : ∀ k : Nat, k < 1000000000000 → (k = 1000000000000 + B) = False := fun k h => eq_false (by omega)
    have hbqB2 : ∀ k : Nat, k < 1000000000000 → (1000000000000 + B = k) = False := fun k h => eq_false (by omega)
    simp -implicitDefEqProofs only [go_sem, Ins.v, Ins.row, hok, hfb, hfd, t8]
    refine A4.frame (rest := ((64 * 10000 + 14), n + 1, .map es) :: ((64 * 10000 + 2), n, .rows 11 [pr]) :: A2.del fm (1000000000000 + B)) (hjc st _ _ _ _ _) (fun e he => ?_) (fun e he => ?_) ?_
    ·simp only [List.mem_cons, List.not_mem_nil, or_false] at he ⊢
     rcases he with h | h
     ·rw [h]; simp only [hmemB, or_true]
     ·simp only [h, eq_self, true_or, or_true]
    ·simp only [List.mem_cons, List.not_mem_nil, or_false] at he ⊢
     rcases he with h | h | h
     ·refine ⟨by simp only [h, eq_self, true_or, or_true], fun e' he' => ?_⟩
      rcases he' with h' | h' <;> rw [h, h'] <;> simp only <;> omega
     ·refine ⟨by simp only [h, eq_self, true_or, or_true], fun e' he' => ?_⟩
      rcases he' with h' | h' <;> rw [h, h'] <;> simp only <;> omega
     ·obtain ⟨h1, h2⟩ := A2.mem_del.1 h
      refine ⟨by simp only [h1, or_true], fun e' he' => ?_⟩
      have := hfn0 e h1
      rcases he' with h' | h' <;> rw [h'] <;> simp only <;> omega
    rintro r h' n2 hn2 ⟨rfl, rfl⟩
    have hdd : ∀ b, b < 1000000000000 → A2.del (A2.del fm (1000000000000 + B)) b = A2.del fm (1000000000000 + B) := fun b hb => by
     refine List.filter_eq_self.2 fun e he => ?_
     have h1 := hfn0 e (A2.mem_del.1 he).1
     cases hbb : Nat.beq e.1 b with
     | false => rfl
     | true => have := Nat.eq_of_beq_eq_true hbb; omega
    generalize A2.del fm (1000000000000 + B) = fd at *
    cases jc with
    | true =>
     have fin := fin true ⟨fun h => absurd h (by simp), fun _ => by
      have := hj1 rfl
      cases ch with
      | true => have := hd1 rfl; omega
      | false => rw [hc1 rfl] at this ⊢; exact this⟩
     simp -implicitDefEqProofs only [go_sem, Ins.v, Ins.row]
     refine ⟨by omega, fin _ n2 (D1.wk (D1.of (by simp -implicitDefEqProofs only [go_sem, Ins.v, Ins.row, hzk]) (fun e he => ?_) (Nat.le_refl _)))⟩
     simp only [List.mem_cons, List.mem_append, List.not_mem_nil, or_false] at he ⊢
     rcases he with h | h | h
     ·simp only [h, eq_self, true_or, or_true]
     ·simp only [h, eq_self, true_or, or_true]
     ·rcases hput e h with h | h <;> simp only [h, eq_self, true_or, or_true]
    | false =>
     have fin := fin ch ⟨fun h => by rw [hj0 rfl]; exact hc1 h, fun h => by rw [hj0 rfl]; exact hd1 h⟩
     simp -implicitDefEqProofs only [go_sem, Ins.v, Ins.row]
     refine ⟨by omega, fin _ n2 (D1.wk (D1.of (by simp -implicitDefEqProofs only [go_sem, Ins.v, Ins.row, hzk]) (fun e he => ?_) (Nat.le_refl _)))⟩
     simp only [List.mem_cons, List.mem_append, List.not_mem_nil, or_false] at he ⊢
     rcases he with h | h | h
     ·simp only [h, eq_self, true_or, or_true]
     ·simp only [h, eq_self, true_or, or_true]
     ·rcases hput e h with h | h <;> simp only [h, eq_self, true_or, or_true]
end Go.Proofs.YtilggmmkmegefaaGreatDoor
