/-
 The states of a function: the rounds of 'states'. No condition.
-/
import Derived.Test.YtfkfphpnijkdlaaGreatDoorVerP2
set_option linter.unusedVariables false
set_option linter.unusedSimpArgs false
set_option maxRecDepth 100000
set_option maxHeartbeats 0
namespace Go.Proofs.YtfkfphpnijkdlaaGreatDoor
open Go.Abs
attribute [local irreducible] CallS Run
-- EV: Ins.v, Ins.row
theorem SameB.mapF {es es2 : List (V × V)} (hl : es2.length = es.length) (hr : ∀ (i : Nat) p2, es2[i]? = some p2 → ∃ p, es[i]? = some p ∧ SameV p.1 p2.1 ∧ SameV p.2 p2.2) : SameB (.map es) (.map es2) := by
 rintro E st ⟨h1, mes, clock, h2, h3, h4, h5⟩
 refine ⟨h1, mes, clock, h2, h3.trans hl.symm, fun i p2 m hi hm => ?_, h5⟩
 obtain ⟨p, hp, g1, g2⟩ := hr i p2 hi
 obtain ⟨k1, k2, k3⟩ := h4 i p m hp hm
 exact ⟨g1 _ _ k1, g2 _ _ k2, k3⟩
theorem Wk.sub' {r : V} {h h2 : Heap} {n : Nat} (hs : ∀ e ∈ h2, e ∈ h) : Wk ⟨[(0, r)], h, n⟩ ⟨[(0, r)], h2, n⟩ := Weak.wk ⟨fun p hp => by rw [List.mem_singleton.1 hp]; rfl, hs, Nat.le_refl _⟩
structure Kn (N n : Nat) (l : List Nat) (M : Nat → Option Stt) : Prop where
 nd : l.Nodup
 mem : ∀ k, k ∈ l ↔ (M k).isSome = true
 lt : ∀ k ∈ l, k < n
 out : ∀ k s, M k = some s → ∀ r, N ≤ r → s.set r = false
 ml : ∀ k s, M k = some s → s.marks.length ≤ l.length
theorem Kn.len {N n : Nat} {l : List Nat} {M : Nat → Option Stt} (h : Kn N n l M) : l.length ≤ n := by
 have := nodup_le l (List.range n) h.nd fun x hx => List.mem_range.2 (h.lt x hx)
 simpa using this
theorem Kn.no {N n : Nat} {l : List Nat} {M : Nat → Option Stt} (h : Kn N n l M) {k : Nat} (hk : M k = none) : k ∉ l := fun hm => by
 have := (h.mem k).1 hm
 rw [hk] at this; cases this
theorem Kn.yes {N n : Nat} {l : List Nat} {M : Nat → Option Stt} (h : Kn N n l M) {k : Nat} {s : Stt} (hk : M k = some s) : k ∈ l := (h.mem k).2 (by rw [hk]; rfl)
theorem effM_len (i : Ins) (m : List Int) : (effM i m).length ≤ m.length + 1 := by
 unfold effM
 split
 ·simp
 split
 ·exact Nat.le_trans (List.length_filter_le _ _) (Nat.le_succ _)
 ·exact Nat.le_succ _
theorem Kn.new {N n : Nat} {l : List Nat} {M : Nat → Option Stt} (h : Kn N n l M) {b : Nat} {s : Stt} (hb : M b = none) (hbn : b < n) (ho : ∀ r, N ≤ r → s.set r = false) (hm : s.marks.length ≤ l.length + 1) : Kn N n (l ++ [b]) (updM M b s) := by
 refine ⟨?_, fun k => ?_, fun k hk => ?_, fun k t ht r hr => ?_, fun k t ht => ?_⟩
 ·refine List.nodup_append.2 ⟨h.nd, by simp, fun x hx y hy => ?_⟩
  rw [List.mem_singleton.1 hy]
  intro e; subst e
  exact h.no hb hx
 ·unfold updM
  by_cases c : k = b
  ·subst c; simp
  ·rw [if_neg c, ← h.mem k]; simp [c]
 ·rcases List.mem_append.1 hk with hk | hk
  ·exact h.lt k hk
  ·rw [List.mem_singleton.1 hk]; exact hbn
 ·unfold updM at ht
  by_cases c : k = b
  ·rw [if_pos c] at ht; injection ht with ht; subst ht; exact ho r hr
  ·rw [if_neg c] at ht; exact h.out k t ht r hr
 ·rw [List.length_append, List.length_singleton]
  unfold updM at ht
  by_cases c : k = b
  ·rw [if_pos c] at ht; injection ht with ht; subst ht; exact hm
  ·rw [if_neg c] at ht; have := h.ml k t ht; omega
theorem Kn.join {N n : Nat} {l : List Nat} {M : Nat → Option Stt} (h : Kn N n l M) {b : Nat} {t o : Stt} (hb : M b = some t) : Kn N n l (updM M b (joinF t o)) := by
 refine ⟨h.nd, fun k => ?_, h.lt, fun k t' ht r hr => ?_, fun k t' ht => ?_⟩
 ·unfold updM
  by_cases c : k = b
  ·subst c; simp; exact h.yes hb
  ·rw [if_neg c]; exact h.mem k
 ·unfold updM at ht
  by_cases c : k = b
  ·rw [if_pos c] at ht; injection ht with ht; subst ht
   simp only [joinF]; rw [h.out b t hb r hr]; rfl
  ·rw [if_neg c] at ht; exact h.out k t' ht r hr
 ·unfold updM at ht
  by_cases c : k = b
  ·rw [if_pos c] at ht; injection ht with ht; subst ht; exact h.ml b t hb
  ·rw [if_neg c] at ht; exact h.ml k t' ht
theorem Kn.zero {N n : Nat} {params : Int} (hn : 0 < n) : Kn N n [0] (M0 N params) := by
 refine ⟨by simp, fun k => ?_, fun k hk => by rw [List.mem_singleton.1 hk]; exact hn, fun k s hs r hr => ?_, fun k s hs => ?_⟩
 ·unfold M0
  by_cases c : k = 0 <;> simp [c]
 ·unfold M0 at hs
  by_cases c : k = 0
  ·rw [if_pos c] at hs; injection hs with hs; subst hs
   have : ¬ r < N := by omega
   simp [entF, this]
  ·rw [if_neg c] at hs; cases hs
 ·unfold M0 at hs
  by_cases c : k = 0
  ·rw [if_pos c] at hs; injection hs with hs; subst hs; simp [entF]
  ·rw [if_neg c] at hs; cases hs
theorem joinF_any {N n : Nat} {l : List Nat} {M : Nat → Option Stt} (h : Kn N n l M) {b : Nat} {t o : Stt} (hb : M b = some t) (hbn : b < n) :
  ((List.range N).any (fun r => t.set r && !o.set r) = false → updM M b (joinF t o) = M) ∧ ((List.range N).any (fun r => t.set r && !o.set r) = true → mu N n (updM M b (joinF t o)) < mu N n M) := by
 refine ⟨fun h0 => ?_, fun h1 => ?_⟩
 ·rw [joinF_same (N := N) (fun r hr ht => ?_) (h.out b t hb), updM_same hb]
  have := List.any_eq_false.1 h0 r (List.mem_range.2 hr)
  cases ho : o.set r with
  | true => rfl
  | false => simp [ht, ho] at this
 ·obtain ⟨r, hr, h2⟩ := List.any_eq_true.1 h1
  rw [Bool.and_eq_true] at h2
  exact mu_join hbn hb (List.mem_range.1 hr) h2.1 (by simpa using h2.2)
theorem states_call (N : Nat) (code : List Ins) (params : Int) (pr : List V) (h11 : pr.length = 11) (ht11 : pr.take 11 = pr) (h5 : pr[5]? = some (.isl (code.map Ins.row))) (h4 : pr[4]? = some (.int .i64 N)) (h2 : pr[2]? = some (.int .i64 params)) (hsub : ∀ d h, pr.map (frz d h) = pr)
  (hc : code.length ≤ 100000) (hc0 : 0 < code.length) (hN : N ≤ 100000) (hp0 : 0 ≤ params) (hp1 : params ≤ N) (hfit : ∀ i ∈ code, Fit N i) (n : Nat) :
  CallS Tryz.prog 64 [.agg pr, .isl ((edgesL code).map erow)] [] n fun r h' n' => ∃ st L, r = .mp (64 * 10000 + 14) st ∧ h' = [((64 * 10000 + 14), st, .map (mapE L (cellV N (stM N code params))))] ∧ Kn N code.length L (stM N code params) ∧ StIs N code params (stM N code params) := by
 have hent := entry_call pr h11 ht11 N params h4 h2 N rfl hN hp0 hp1
 have hpl : ∀ (a : Nat) (i : Ins) (ha : code[a]? = some i) (b : Int) (s : Stt) (hm : s.marks.length ≤ 1000000), _ := fun a i ha b s hm => passed_lend N code pr h11 ht11 h5 a i ha b (by omega) s hN (hfit i (List.mem_of_getElem? ha)) hm
 have lE : ((edgesL code).map erow).length = (edgesL code).length := List.length_map ..
 have zE := rowszP erow 2 (fun _ => rfl) (edgesL code)
 have rE : ∀ (k : Nat) e, (edgesL code)[k]? = some e → ((edgesL code).map erow)[k]? = some [.int .i64 (e.1 : Nat), .int .i64 e.2] := fun k e hk => by rw [List.getElem?_map, hk]; rfl
 have hElen : (edgesL code).length ≤ 2 * code.length := edgesP_len code code.length
 have hEin := fun e (h : e ∈ edgesL code) => edges_in h
 generalize hE : (edgesL code).map erow = ER at *
 refine CallS.enterK verify_states_ok (Nat.le_of_ble_eq_true rfl) fun Q hQ => Run.go 100 ?_
 simp -implicitDefEqProofs only [go_sem, Ins.v, Ins.row, initSl, h11, ht11]
 refine CallS.at [] [0, 1] (hent _) rfl rfl ?_
 rintro r h' n1 hn1 ⟨st0, rfl, rfl⟩
 simp -implicitDefEqProofs only [go_sem, Ins.v, Ins.row, h11, ht11]
 refine Run.keep [6, 5, 2, 1] ?_
 have hkn := fun l M (hk : Kn N code.length l M) => hk.len
 refine Run.roundsK (fun (x : List Nat × (Nat → Nat) × (Nat → Option Stt) × Bool × Nat) => ⟨[(6, .bool x.2.2.2.1), (5, .mp (64 * 10000 + 14) (n + 1)), (2, .ptr (64 * 10000 + 2) n 0 0), (1, .isl ER)],
   ((64 * 10000 + 14), n + 1, .map (mapE x.1 (cellW N x.2.1 x.2.2.1))) :: ((64 * 10000 + 2), n, .rows 11 [pr]) :: famL (rowM N x.2.2.1) x.2.1 x.1, x.2.2.2.2⟩)
  (fun x => Kn N code.length x.1 x.2.2.1 ∧ (∃ j, x.2.2.1 = iterM N code params j) ∧ (x.2.2.2.1 = false → roundM N code x.2.2.1 = x.2.2.1)) (fun x => 2 * mu N code.length x.2.2.1 + (if x.2.2.2.1 then 1 else 0)) ([0], (fun _ => st0), M0 N params, true, n1) ?_ ⟨Kn.zero hc0, ⟨0, rfl⟩, fun h => absurd h (by simp)⟩ ?_
 ·have e0 : mapE [0] (cellW N (fun _ => st0) (M0 N params)) = [(.int .i64 0, .agg [.sl (1000000000000 + 0) st0 0 N, .int .i64 (-1), .isl []])] := rfl
  have e1 : famL (rowM N (M0 N params)) (fun _ => st0) [0] = [(1000000000000 + 0, st0, .rows 1 (boolR N (entF N params).set))] := rfl
  simp only [e0, e1]
  refine .turn (fun x => if x = (89 * 10000 + 7) then 1000000000000 + 0 else x) ⟨.refl _, .refl _, .refl _, .refl _, trivial⟩ (.at 0 rfl rfl (SameB.mapF rfl fun i p2 hi => ?_) (.at 2 rfl rfl (.refl _) (.at 1 rfl rfl (.refl _) trivial)))
  cases i with
  | zero =>
   simp only [List.getElem?_cons_zero, Option.some.injEq] at hi
   subst hi
   exact ⟨_, rfl, .refl _, .agg ⟨.sl, .refl _, .refl _, trivial⟩⟩
  | succ i => simp at hi
 rintro ⟨l, S, M, ch, m⟩ ⟨hK, hit, hfix⟩ ih
 simp only at hK hit hfix ih ⊢
 refine Run.unf verify_states_l0_eq (Run.go 100 ?_)
 cases ch with
 | false =>
  have hst : StIs N code params M := by
   obtain ⟨j, hj⟩ := hit
   exact ⟨j, hj, hfix rfl⟩
  simp -implicitDefEqProofs only [go_sem, Ins.v, Ins.row]
  have hS := stM_eq hst
  subst hQ
  refine .to (n2 := m) ⟨n + 1, l, rfl, rfl, hS ▸ hK, hS ▸ hst⟩ ?_
  rw [← hS]
  have w1 : Wk ⟨[(0, .mp (64 * 10000 + 14) (n + 1))], ((64 * 10000 + 14), n + 1, .map (mapE l (cellW N S M))) :: ((64 * 10000 + 2), n, .rows 11 [pr]) :: famL (rowM N M) S l, m⟩
    ⟨[(0, .mp (64 * 10000 + 14) (n + 1))], ((64 * 10000 + 14), n + 1, .map (mapE l fun k => if k ∈ l then cellW N S M k else cellV N M k)) :: famL (rowM N M) S l, m⟩ := by
   have : (mapE l fun k => if k ∈ l then cellW N S M k else cellV N M k) = mapE l (cellW N S M) := mapE_congr fun x hx => by rw [if_pos hx]
   rw [this]
   refine Wk.sub' fun e he => ?_
   simp only [List.mem_cons] at he ⊢
   rcases he with h | h <;> simp only [h, eq_self, true_or, or_true]
  exact w1.trans (freeze_fam N _ _ _ (by decide) S M l (fun k hk => (hK.mem k).1 hk) l hK.nd fun k hk => hk)
 | true =>
  simp -implicitDefEqProofs only [go_sem, Ins.v, Ins.row, lE]
  refine Run.keep [21, 20, 19, 6, 5, 2, 1] ?_
  refine Run.roundsK (fun (y : Nat × List Nat × (Nat → Nat) × (Nat → Option Stt) × Bool × Nat) => ⟨[(21, .int .i64 y.1), (20, .int .i64 (edgesL code).length), (19, .isl ER), (6, .bool y.2.2.2.2.1), (5, .mp (64 * 10000 + 14) (n + 1)), (2, .ptr (64 * 10000 + 2) n 0 0), (1, .isl ER)],
    ((64 * 10000 + 14), n + 1, .map (mapE y.2.1 (cellW N y.2.2.1 y.2.2.2.1))) :: ((64 * 10000 + 2), n, .rows 11 [pr]) :: famL (rowM N y.2.2.2.1) y.2.2.1 y.2.1, y.2.2.2.2.2⟩)
   (fun y => y.1 ≤ (edgesL code).length ∧ Kn N code.length y.2.1 y.2.2.2.1 ∧ y.2.2.2.1 = ((edgesL code).take y.1).foldl (stepM N code) M ∧ (y.2.2.2.2.1 = false → y.2.2.2.1 = M) ∧ (y.2.2.2.2.1 = true → mu N code.length y.2.2.2.1 < mu N code.length M)) (fun y => (edgesL code).length - y.1) (0, l, S, M, false, m) (Weak.wk (Weak.of (by simp -implicitDefEqProofs only [go_sem, Ins.v, Ins.row]) (fun e he => he) (by simp -implicitDefEqProofs only [go_sem, Ins.v, Ins.row]))) ⟨Nat.zero_le _, hK, rfl, fun _ => rfl, fun h => absurd h (by simp)⟩ ?_
  rintro ⟨k, l1, S1, M1, ch, m1⟩ ⟨hk, hK1, hM1, hc1, hd1⟩ ih2
  simp only at hk hK1 hM1 hc1 hd1 ih2 ⊢
  refine Run.unf verify_states_l1_eq (Run.go 100 ?_)
  by_cases hlk : k < (edgesL code).length
  case neg =>
   have ek : k = (edgesL code).length := by omega
   subst ek
   rw [List.take_length] at hM1
   have hrd : M1 = roundM N code M := hM1
   simp -implicitDefEqProofs only [go_sem, Ins.v, Ins.row, Int.lt_irrefl]
   refine ih _ (l1, S1, M1, ch, m1) ⟨hK1, ?_, fun h => ?_⟩ ?_ (Weak.wk (Weak.of (by simp -implicitDefEqProofs only [go_sem, Ins.v, Ins.row]) (fun e he => he) (Nat.le_refl _)))
   ·obtain ⟨j, hj⟩ := hit
    exact ⟨j + 1, by rw [iterM, ← hj]; exact hrd⟩
   ·simp only at h ⊢
    rw [hc1 h] at hrd ⊢; exact hrd.symm
   ·simp only
    cases ch with
    | true => have := hd1 rfl; simp; omega
    | false => rw [hc1 rfl]; simp
  have w0 : ((k : Int) < ((edgesL code).length : Int)) = True := eq_true (by omega)
  have w1 : ((0 : Int) ≤ (k : Int)) = True := eq_true (by omega)
  obtain ⟨⟨a, b⟩, hx⟩ : ∃ e, (edgesL code)[k]? = some e := ⟨(edgesL code)[k], by simp [hlk]⟩
  have hxr := rE k _ hx
  obtain ⟨han, hbx, hb0, hbn⟩ := hEin _ (List.mem_of_getElem? hx)
  simp only at hxr han hbx hb0 hbn
  obtain ⟨B, rfl⟩ : ∃ B : Nat, b = B := ⟨b.toNat, by omega⟩
  have hBn : B < code.length := by omega
  obtain ⟨i, hi⟩ : ∃ i, code[a]? = some i := ⟨code[a], by simp [han]⟩
  have hins : insAt code a = i := by unfold insAt; rw [List.getD_eq_getElem?_getD, hi]; rfl
  have hstep : ((edgesL code).take (k + 1)).foldl (stepM N code) M = stepM N code M1 (a, (B : Int)) := by rw [List.take_add_one, hx, List.foldl_append, ← hM1]; rfl
  have hzk : ((k + 1 : Nat) : Int) = (k : Int) + 1 := by omega
  have hok : ∀ z : Int, keyOK (.int .i64 z) (mapE l1 (cellW N S1 M1)) = True := fun z => eq_true ((mapE_keys _ _).ok z)
  have hfd := fun (b : Nat) hb => famL_del (F := rowM N M1) (S := S1) (l := l1) (b := b) hb
  cases hMa : M1 a with
  | none =>
   have hfa := mapE_no (F := cellW N S1 M1) (hK1.no hMa)
   have hst : stepM N code M1 (a, (B : Int)) = M1 := by simp only [stepM, hMa]
   have fin := fun s m2 => ih2 s (k + 1, l1, S1, M1, ch, m2) ⟨by simp only; omega, hK1, by simp only; rw [hstep, hst], hc1, hd1⟩ (by simp only; omega)
   simp only at fin
   generalize mapE l1 (cellW N S1 M1) = es at *
   generalize famL (rowM N M1) S1 l1 = fm at *
   simp -implicitDefEqProofs only [go_sem, Ins.v, Ins.row, w0, w1, lE, zE, hxr, hlk, hfa, hok, hfd, Option.some.injEq, forall_eq']
   refine ⟨by omega, fin _ (m1 + 1 + 1) (Weak.wk (Weak.of (by simp -implicitDefEqProofs only [go_sem, Ins.v, Ins.row, hzk]) (fun e he => ?_) (Nat.le_refl _)))⟩
   simp only [List.mem_cons] at he ⊢
   rcases he with h | h | h <;> simp only [h, eq_self, true_or, or_true]
  | some s =>
   have hal1 := hK1.yes hMa
   have hfa : mfind (.int .i64 (a : Nat)) (mapE l1 (cellW N S1 M1)) = some (.agg [.sl (1000000000000 + a) (S1 a) 0 N, .int .i64 s.opn, .isl (s.marks.map zrw)]) := by
    rw [mapE_yes hal1]; simp only [cellW, hMa, sttV]
   have hfg : Heap.get (famL (rowM N M1) S1 l1) (1000000000000 + a) (S1 a) = some (.rows 1 (boolR N s.set)) := by
    rw [famL_get hal1]; simp only [rowM, hMa]
   have hbqa : ∀ k : Nat, k < 1000000000000 → (k = 1000000000000 + a) = False := fun k h => eq_false (by omega)
   have hbqa2 : ∀ k : Nat, k < 1000000000000 → (1000000000000 + a = k) = False := fun k h => eq_false (by omega)
   have hml := hK1.ml a s hMa
   have hll := hK1.len
   have hcal := hpl a i hi (B : Int) s (by omega)
   have hsz := fun d h => (frz_eq (d := d) (h := h)).elim fun φ e => show (s.marks.map zrw).map (fun r => r.map (frz d h)) = s.marks.map zrw by rw [e]; exact zrw_sub φ _
   have hsb := fun d h => (frz_eq (d := d) (h := h)).elim fun φ e => show (boolR N s.set).map (fun r => r.map (frz d h)) = boolR N s.set by rw [e]; exact boolR_sub φ _ _
   have hlb := boolR_len N s.set
   have hout := fun r (hr : N ≤ r) => passF_out (N := N) (i := i) (a := a) (b := (B : Int)) (s := s) hr
   have hmlo : (passF N i a (B : Int) s).marks.length ≤ l1.length + 1 := by rw [passF_marks]; have := effM_len i s.marks; omega
   have hfn0 : ∀ e ∈ famL (rowM N M1) S1 l1, 1000000000000 ≤ e.1 := fun e he => by obtain ⟨j, _, rfl⟩ := famL_mem.1 he; simp only [famE]; omega
   cases hMb : M1 B with
   | none =>
    have hBl := hK1.no hMb
    have hfb := mapE_no (F := cellW N S1 M1) hBl
    have hst : stepM N code M1 (a, (B : Int)) = updM M1 B (passF N i a (B : Int) s) := by simp only [stepM, hMa, Int.toNat_natCast, hMb, hins]
    have hKn := hK1.new hMb hBn hout hmlo
    have hmu := mu_new (N := N) (s := passF N i a (B : Int) s) hBn hMb
    have hmset : ∀ st, mset (.int .i64 (B : Nat)) (sttV (.sl (1000000000000 + B) st 0 N) (passF N i a (B : Int) s)) (mapE l1 (cellW N S1 M1)) = mapE (l1 ++ [B]) (cellW N (fun j => if j = B then st else S1 j) (updM M1 B (passF N i a (B : Int) s))) := fun st => by
     refine mapE_new hBl (fun x hx => ?_) ?_
     ·have hxB : x ≠ B := fun e => hBl (e ▸ hx)
      simp only [cellW, updM, if_neg hxB]
     ·simp only [cellW, updM, if_true]
    have hfam : ∀ st, famL (rowM N (updM M1 B (passF N i a (B : Int) s))) (fun j => if j = B then st else S1 j) (l1 ++ [B]) = famL (rowM N M1) S1 l1 ++ [(1000000000000 + B, st, .rows 1 (boolR N (passF N i a (B : Int) s).set))] := fun st => by
     rw [famL_snoc (F := rowM N M1) (S := S1) fun j hj => ?_]
     ·simp only [rowM, updM, if_true]
     ·have hjB : j ≠ B := fun e => hBl (e ▸ hj)
      simp only [rowM, updM, if_neg hjB, and_self]
    have hfn : ∀ e ∈ famL (rowM N M1) S1 l1, e.1 ≠ 1000000000000 + B := fun e he => by
     obtain ⟨j, hj, rfl⟩ := famL_mem.1 he
     have hjB : j ≠ B := fun e => hBl (e ▸ hj)
     simp only [famE]; omega
    have fin := fun sg st m2 => ih2 sg (k + 1, l1 ++ [B], (fun j => if j = B then st else S1 j), updM M1 B (passF N i a (B : Int) s), true, m2) ⟨by simp only; omega, hKn, by simp only; rw [hstep, hst], fun h => absurd h (by simp), fun _ => by
     simp only
     cases ch with
     | true => have := hd1 rfl; omega
     | false => rw [hc1 rfl] at hmu ⊢; exact hmu⟩ (by simp only; omega)
    simp only [hfam, ← hmset] at fin
    generalize hes : mapE l1 (cellW N S1 M1) = es at *
    generalize famL (rowM N M1) S1 l1 = fm at *
    generalize boolR N s.set = FSs at *
    simp -implicitDefEqProofs only [go_sem, Ins.v, Ins.row, w0, w1, lE, zE, hxr, hlk, hfa, hok, hfd, h11, ht11, Option.some.injEq, forall_eq']
    have hap : ∀ (x : Nat), (x < 1000000000000 → x ≠ (64 * 10000 + 9) ∧ x ≠ (64 * 10000 + 8) ∧ x ≠ (64 * 10000 + 14) ∧ x ≠ (64 * 10000 + 2)) → (∀ e ∈ fm, e.1 ≠ x) → ∀ X1 X2 X3 X4 y1 y2 y3 y4, ∀ e ∈ (((64 * 10000 + 9), y1, X1) :: ((64 * 10000 + 8), y2, X2) :: ((64 * 10000 + 14), y3, X3) :: ((64 * 10000 + 2), y4, X4) :: fm : Heap), e.1 ≠ x := by
     intro x hx hxf X1 X2 X3 X4 y1 y2 y3 y4 e he
     simp only [List.mem_cons] at he
     by_cases c : x < 1000000000000
     ·obtain ⟨d1, d2, d3, d4⟩ := hx c
      rcases he with h | h | h | h | h
      ·rw [h]; exact d1.symm
      ·rw [h]; exact d2.symm
      ·rw [h]; exact d3.symm
      ·rw [h]; exact d4.symm
      ·exact hxf e h
     ·rcases he with h | h | h | h | h
      ·rw [h]; simp only; omega
      ·rw [h]; simp only; omega
      ·rw [h]; simp only; omega
      ·rw [h]; simp only; omega
      ·exact hxf e h
    refine hcal _ _ _ 1 _ ?_ (1000000000000 + B) (hap _ (fun h => by omega) hfn _ _ _ _ _ _ _ _) (hap _ (fun h => by decide) (fun e he => by have := hfn0 e he; omega) _ _ _ _ _ _ _ _) (hap _ (fun h => by decide) (fun e he => by have := hfn0 e he; omega) _ _ _ _ _ _ _ _) ?_
    ·have htk : FSs.take N = FSs := List.take_of_length_le (by omega)
     simp -implicitDefEqProofs only [go_sem, Ins.v, Ins.row, hsub, hfg, hsz, hsb, hlb, htk, hbqa, hbqa2, sttV]
    intro st n' hn'
    have hbqB : ∀ k : Nat, k < 1000000000000 → (k = 1000000000000 + B) = False := fun k h => eq_false (by omega)
    have hbqB2 : ∀ k : Nat, k < 1000000000000 → (1000000000000 + B = k) = False := fun k h => eq_false (by omega)
    simp -implicitDefEqProofs only [go_sem, Ins.v, Ins.row, hok, hfb, hfd, hbqB, hbqB2, sttV]
    refine ⟨by omega, fin _ st (n' + 1 + 1) (Weak.wk (Weak.of (by simp -implicitDefEqProofs only [go_sem, Ins.v, Ins.row, hzk]) (fun e he => ?_) (Nat.le_refl _)))⟩
    simp only [sttV, List.mem_cons, List.mem_append, List.not_mem_nil, or_false] at he ⊢
    rcases he with h | h | h | h <;> simp only [h, eq_self, true_or, or_true]
   | some t =>
    have hbl1 := hK1.yes hMb
    have hfb : mfind (.int .i64 (B : Nat)) (mapE l1 (cellW N S1 M1)) = some (.agg [.sl (1000000000000 + B) (S1 B) 0 N, .int .i64 t.opn, .isl (t.marks.map zrw)]) := by
     rw [mapE_yes hbl1]; simp only [cellW, hMb, sttV]
    have hmemB : (1000000000000 + B, S1 B, Blk.rows 1 (boolR N t.set)) ∈ famL (rowM N M1) S1 l1 := famL_mem.2 ⟨B, hbl1, by simp only [famE, rowM, hMb]⟩
    have hst : stepM N code M1 (a, (B : Int)) = updM M1 B (joinF t (passF N i a (B : Int) s)) := by simp only [stepM, hMa, Int.toNat_natCast, hMb, hins]
    have hKn := hK1.join (o := passF N i a (B : Int) s) hMb
    obtain ⟨hj0, hj1⟩ := joinF_any (o := passF N i a (B : Int) s) hK1 hMb hBn
    have hcells : mapE l1 (cellW N S1 (updM M1 B (joinF t (passF N i a (B : Int) s)))) = mapE l1 (cellW N S1 M1) := mapE_congr fun x hx => by
     by_cases c : x = B
     ·subst c; simp only [cellW, updM, if_true, hMb, joinF, sttV]
     ·simp only [cellW, updM, if_neg c]
    have hput : ∀ e ∈ famL (rowM N (updM M1 B (joinF t (passF N i a (B : Int) s)))) S1 l1, e = (1000000000000 + B, S1 B, .rows 1 (boolR N fun r => t.set r && (passF N i a (B : Int) s).set r)) ∨ e ∈ Heap.del (famL (rowM N M1) S1 l1) (1000000000000 + B) := fun e he => by
     rcases famL_put (F := rowM N M1) (b := B) (fun j _ hjB => by simp only [rowM, updM, if_neg hjB]) he with h | h
     ·left; rw [h]; simp only [rowM, updM, if_true, joinF]
     ·exact .inr h
    have fin := fun (ch' : Bool) (hch : (ch' = false → updM M1 B (joinF t (passF N i a (B : Int) s)) = M) ∧ (ch' = true → mu N code.length (updM M1 B (joinF t (passF N i a (B : Int) s))) < mu N code.length M)) sg m2 => ih2 sg (k + 1, l1, S1, updM M1 B (joinF t (passF N i a (B : Int) s)), ch', m2) ⟨by simp only; omega, hKn, by simp only; rw [hstep, hst], hch.1, hch.2⟩ (by simp only; omega)
    simp only [hcells] at fin
    have hjc := join_call N t.set (passF N i a (B : Int) s).set hN B (S1 B)
    generalize ((List.range N).any fun r => t.set r && !(passF N i a (B : Int) s).set r) = jc at *
    generalize hes : mapE l1 (cellW N S1 M1) = es at *
    generalize famL (rowM N (updM M1 B (joinF t (passF N i a (B : Int) s)))) S1 l1 = fm2 at *
    generalize famL (rowM N M1) S1 l1 = fm at *
    generalize boolR N s.set = FSs at *
    simp -implicitDefEqProofs only [go_sem, Ins.v, Ins.row, w0, w1, lE, zE, hxr, hlk, hfa, hok, hfd, h11, ht11, Option.some.injEq, forall_eq']
    have hap : ∀ (x : Nat), x < 1000000000000 → x ≠ (64 * 10000 + 9) ∧ x ≠ (64 * 10000 + 8) ∧ x ≠ (64 * 10000 + 14) ∧ x ≠ (64 * 10000 + 2) → ∀ X1 X2 X3 X4 y1 y2 y3 y4, ∀ e ∈ (((64 * 10000 + 9), y1, X1) :: ((64 * 10000 + 8), y2, X2) :: ((64 * 10000 + 14), y3, X3) :: ((64 * 10000 + 2), y4, X4) :: fm : Heap), e.1 ≠ x := by
     intro x hx ⟨d1, d2, d3, d4⟩ X1 X2 X3 X4 y1 y2 y3 y4 e he
     simp only [List.mem_cons] at he
     rcases he with h | h | h | h | h
     ·rw [h]; exact d1.symm
     ·rw [h]; exact d2.symm
     ·rw [h]; exact d3.symm
     ·rw [h]; exact d4.symm
     ·have := hfn0 e h; omega
    refine hcal _ _ _ 1 _ ?_ (126 * 10000 + 5) (hap _ (by decide) (by decide) _ _ _ _ _ _ _ _) (hap _ (by decide) (by decide) _ _ _ _ _ _ _ _) (hap _ (by decide) (by decide) _ _ _ _ _ _ _ _) ?_
    ·have htk : FSs.take N = FSs := List.take_of_length_le (by omega)
     simp -implicitDefEqProofs only [go_sem, Ins.v, Ins.row, hsub, hfg, hsz, hsb, hlb, htk, hbqa, hbqa2, sttV]
    intro st n' hn'
    have hbqB : ∀ k : Nat, k < 1000000000000 → (k = 1000000000000 + B) = False := fun k h => eq_false (by omega)
    have hbqB2 : ∀ k : Nat, k < 1000000000000 → (1000000000000 + B = k) = False := fun k h => eq_false (by omega)
    simp -implicitDefEqProofs only [go_sem, Ins.v, Ins.row, hok, hfb, hfd, sttV]
    refine CallS.frame (rest := ((64 * 10000 + 14), n + 1, .map es) :: ((64 * 10000 + 2), n, .rows 11 [pr]) :: Heap.del fm (1000000000000 + B)) (hjc st _ _ _ _ _) (fun e he => ?_) (fun e he => ?_) ?_
    ·simp only [List.mem_cons, List.not_mem_nil, or_false] at he ⊢
     rcases he with h | h
     ·rw [h]; simp only [hmemB, or_true]
     ·simp only [h, eq_self, true_or, or_true]
    ·simp only [List.mem_cons, List.not_mem_nil, or_false] at he ⊢
     rcases he with h | h | h
     ·refine ⟨by simp only [h, eq_self, true_or, or_true], fun e' he' => ?_⟩
      rcases he' with h' | h' <;> rw [h, h'] <;> simp only <;> omega
     ·refine ⟨by simp only [h, eq_self, true_or, or_true], fun e' he' => ?_⟩
      rcases he' with h' | h' <;> rw [h, h'] <;> simp only <;> omega
     ·obtain ⟨h1, h2⟩ := Heap.mem_del.1 h
      refine ⟨by simp only [h1, or_true], fun e' he' => ?_⟩
      have := hfn0 e h1
      rcases he' with h' | h' <;> rw [h'] <;> simp only <;> omega
    rintro r h' n2 hn2 ⟨rfl, rfl⟩
    have hdd : ∀ b, b < 1000000000000 → Heap.del (Heap.del fm (1000000000000 + B)) b = Heap.del fm (1000000000000 + B) := fun b hb => by
     refine List.filter_eq_self.2 fun e he => ?_
     have h1 := hfn0 e (Heap.mem_del.1 he).1
     cases hbb : Nat.beq e.1 b with
     | false => rfl
     | true => have := Nat.eq_of_beq_eq_true hbb; omega
    generalize Heap.del fm (1000000000000 + B) = fd at *
    cases jc with
    | true =>
     have fin := fin true ⟨fun h => absurd h (by simp), fun _ => by
      have := hj1 rfl
      cases ch with
      | true => have := hd1 rfl; omega
      | false => rw [hc1 rfl] at this ⊢; exact this⟩
     simp -implicitDefEqProofs only [go_sem, Ins.v, Ins.row]
     refine ⟨by omega, fin _ n2 (Weak.wk (Weak.of (by simp -implicitDefEqProofs only [go_sem, Ins.v, Ins.row, hzk]) (fun e he => ?_) (Nat.le_refl _)))⟩
     simp only [List.mem_cons, List.mem_append, List.not_mem_nil, or_false] at he ⊢
     rcases he with h | h | h
     ·simp only [h, eq_self, true_or, or_true]
     ·simp only [h, eq_self, true_or, or_true]
     ·rcases hput e h with h | h <;> simp only [h, eq_self, true_or, or_true]
    | false =>
     have fin := fin ch ⟨fun h => by rw [hj0 rfl]; exact hc1 h, fun h => by rw [hj0 rfl]; exact hd1 h⟩
     simp -implicitDefEqProofs only [go_sem, Ins.v, Ins.row]
     refine ⟨by omega, fin _ n2 (Weak.wk (Weak.of (by simp -implicitDefEqProofs only [go_sem, Ins.v, Ins.row, hzk]) (fun e he => ?_) (Nat.le_refl _)))⟩
     simp only [List.mem_cons, List.mem_append, List.not_mem_nil, or_false] at he ⊢
     rcases he with h | h | h
     ·simp only [h, eq_self, true_or, or_true]
     ·simp only [h, eq_self, true_or, or_true]
     ·rcases hput e h with h | h <;> simp only [h, eq_self, true_or, or_true]
end Go.Proofs.YtfkfphpnijkdlaaGreatDoor
