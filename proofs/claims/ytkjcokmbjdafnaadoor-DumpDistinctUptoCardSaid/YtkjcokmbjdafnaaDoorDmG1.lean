/-
  What the reader of numbers, truths, texts and values takes from its bytes. No condition.
-/
import Derived.Test.YtkjcokmbjdafnaaDoorDmG0
import Derived.Test.YtkjcokmbjdafnaaDoorPan
import Derived.Test.YtkjcokmbjdafnaaDoorCode
set_option linter.unusedVariables false
set_option linter.unusedSimpArgs false
set_option maxRecDepth 100000
set_option maxHeartbeats 0
namespace Go.Proofs.YtkjcokmbjdafnaaDoor
open Go Go.Abs
attribute [local irreducible] CallS CallP Run
abbrev rD : Nat := (17 * 10000 + 8)
abbrev vN (k : Nat) : Nat := 38 * 10000 + k
-- EV: rD, vN
def rdH (R s : Nat) (l : List Int) : Heap := [(R, s, .rows 1 [[.isl (byR l)]])]
def fltV (e : Int) : Value := .iface 69 (.agg #[.int .i64 e])
def Gets {α : Type} (R s : Nat) (G : Rd α) (v : α → V) : Res := fun r h' _ => ∃ a l, G = .ok (a, l) ∧ r = v a ∧ h' = rdH R s l
def Fails {α : Type} (G : Rd α) : PanK := fun x h' _ => ∃ e, G = .error e ∧ x = fltV e ∧ h' = []
theorem fail_call (R s n : Nat) (e : Int) : CallP Tryd.prog 27 [.ptr R s 0 0, .int .i64 e] [] n (fun _ _ _ => False) (fun x h' _ => x = fltV e ∧ h' = []) := by
  refine CallP.enterK dump_reader_fail_ok (Nat.le_of_ble_eq_true rfl) fun Q pk hQ hpk => Run.go 100 ?_
  simp -implicitDefEqProofs only [go_sem, rD, vN, initSl]
  subst hpk
  exact .none ⟨rfl, rfl⟩
theorem take_call (R s n : Nat) (k : Nat) (l : List Int) : CallP Tryd.prog 59 [.ptr R s 0 0, .int .i64 k] (rdH R s l) n (Gets R s (takeP k l) fun b => .isl (byR b)) (Fails (takeP k l)) := by
  have hR := byR_len l
  have hS := byR_sz l
  have hT : (byR l).take k = byR (l.take k) := by simp [byR]
  have hD : (byR l).drop k = byR (l.drop k) := by simp [byR]
  refine CallP.enterK dump_reader_take_ok (Nat.le_of_ble_eq_true rfl) fun Q pk hQ hpk => Run.go 100 ?_
  unfold rdH
  by_cases c : (k : Int) > l.length
  · simp -implicitDefEqProofs only [go_sem, rD, vN, initSl, hR, hS, c]
    refine CallP.at [] [] (fail_call R s _ 5) rfl rfl (fun _ _ _ _ h => h.elim) ?_
    rintro x h' n' _ ⟨rfl, rfl⟩
    subst hpk
    exact .none ⟨5, if_neg (by omega), rfl, rfl⟩
  · have c1 : (k ≤ l.length) = True := eq_true (by omega)
    have c2 : ((0 : Int) ≤ (k : Int)) = True := eq_true (by omega)
    have c3 : ((k : Int) ≤ (l.length : Int)) = True := eq_true (by omega)
    simp -implicitDefEqProofs only [go_sem, rD, vN, initSl, hR, hS, c, c1, c2, c3, Int.toNat_natCast]
    subst hQ
    have e0 : ((k : Int) - 0).toNat = k := by omega
    have e1 : ((l.length : Int) - k).toNat = l.length - k := by omega
    refine ⟨Int.le_refl _, .is ⟨_, _, if_pos (by omega), ?_, ?_⟩⟩
    · dsimp only
      rw [e0, hT]
    · unfold rdH
      rw [hD, e1, List.take_of_length_le (by rw [byR_len, List.length_drop]; exact Nat.le_refl _)]
theorem num_rd (R s n : Nat) (l : List Int) : CallP Tryd.prog 35 [.ptr R s 0 0] (rdH R s l) n (Gets R s (numP l) fun z => .int .i64 z) (Fails (numP l)) := by
  have ht := fun n => take_call R s n 8 l
  unfold numP
  refine CallP.enterK dump_reader_num_ok (Nat.le_of_ble_eq_true rfl) fun Q pk hQ hpk => Run.go 100 ?_
  simp -implicitDefEqProofs only [go_sem, rD, vN, initSl]
  refine CallP.at [0] [] (ht _) rfl rfl ?_ ?_
  rotate_left
  · rintro x h' n' _ ⟨e, h1, rfl, rfl⟩
    subst hpk
    exact .none ⟨e, by rw [h1]; rfl, rfl, rfl⟩
  rintro r h' n1 _ ⟨b, l1, h1, rfl, rfl⟩
  rw [h1, Rd.bind_ok] at hQ
  have hb := (takeP_inv h1).2
  have hR := byR_len b
  have hS := byR_sz b
  have hrow : ∀ k, k < 8 → (byR b)[k]? = some [.int .u8 (b.getD k 0)] := fun k hk => by
    unfold byR
    rw [List.getElem?_map, List.getD_eq_getElem?_getD, List.getElem?_eq_getElem (by omega)]
    rfl
  rw [hb] at hR
  dsimp only
  generalize byR b = BR at *
  simp -implicitDefEqProofs only [go_sem, rD, vN, hR]
  refine Run.rounds (fun (k : Nat) => ⟨[(9, .int .i64 k), (8, .int .i64 8), (7, .isl BR), (3, .int .u64 (orN b k))], rdH R s l1, n1⟩) (fun k => k ≤ 8) (fun k => 8 - k) 0 (by first | (simp -implicitDefEqProofs only [go_sem, rD, vN, rdH, orN]; done) | (simp -implicitDefEqProofs only [go_sem, rD, vN, rdH, orN]; simp)) (by omega) ?_
  intro k hk ih
  refine Run.unf dump_reader_num_l0_eq (Run.go 100 ?_)
  by_cases c : (k : Int) < 8
  · have hr := hrow k (by omega)
    have k0 : ((0 : Int) ≤ (k : Int)) = True := eq_true (by omega)
    have k1 : (k < 8) = True := eq_true (by omega)
    simp -implicitDefEqProofs only [go_sem, rD, vN, c, hR, hS, hr, k0, k1, Option.some.injEq, forall_eq', Int.toNat_natCast]
    exact ⟨⟨by omega, by omega⟩, by omega, ⟨by omega, by omega⟩, ih _ (k + 1) (by omega) (by omega) (by first | (simp -implicitDefEqProofs only [go_sem, rD, vN, rdH, orN]; done) | (simp -implicitDefEqProofs only [go_sem, rD, vN, rdH, orN]; simp))⟩
  · obtain rfl : k = 8 := by omega
    simp -implicitDefEqProofs only [go_sem, rD, vN, c]
    subst hQ
    exact .is ⟨_, _, rfl, rfl, rfl⟩
theorem truth_rd (R s n : Nat) (l : List Int) : CallP Tryd.prog 36 [.ptr R s 0 0] (rdH R s l) n (Gets R s (truthP l) fun t => .bool t) (Fails (truthP l)) := by
  have ht := fun n => take_call R s n 1 l
  unfold truthP
  refine CallP.enterK dump_reader_truth_ok (Nat.le_of_ble_eq_true rfl) fun Q pk hQ hpk => Run.go 100 ?_
  simp -implicitDefEqProofs only [go_sem, rD, vN, initSl]
  refine CallP.at [0] [] (ht _) rfl rfl ?_ ?_
  rotate_left
  · rintro x h' n' _ ⟨e, h1, rfl, rfl⟩
    subst hpk
    exact .none ⟨e, by rw [h1]; rfl, rfl, rfl⟩
  rintro r h' n1 _ ⟨b, l1, h1, rfl, rfl⟩
  rw [h1, Rd.bind_ok] at hQ hpk
  have hb := (takeP_inv h1).2
  obtain ⟨c, rfl⟩ : ∃ c, b = [c] := by match b, hb with | [c], _ => exact ⟨c, rfl⟩
  simp only [List.getD_cons_zero] at hQ hpk
  by_cases c1 : c > 1
  · simp -implicitDefEqProofs only [go_sem, rD, vN, byR, List.map_cons, List.map_nil, c1]
    refine CallP.at [] [] (fail_call R s _ 4) rfl rfl (fun _ _ _ _ h => h.elim) ?_
    rintro x h' n' _ ⟨rfl, rfl⟩
    subst hpk
    exact .none ⟨4, if_pos c1, rfl, rfl⟩
  · simp -implicitDefEqProofs only [go_sem, rD, vN, byR, List.map_cons, List.map_nil, c1]
    subst hQ
    exact .is ⟨_, _, if_neg c1, rfl, rfl⟩
theorem len_rd (R s n : Nat) (l : List Int) : CallP Tryd.prog 37 [.ptr R s 0 0] (rdH R s l) n (Gets R s (lenP l) fun k => .int .i64 k) (Fails (lenP l)) := by
  have ht := fun n => num_rd R s n l
  unfold lenP
  refine CallP.enterK dump_reader_length_ok (Nat.le_of_ble_eq_true rfl) fun Q pk hQ hpk => Run.go 100 ?_
  simp -implicitDefEqProofs only [go_sem, rD, vN, initSl]
  refine CallP.at [0] [] (ht _) rfl rfl ?_ ?_
  rotate_left
  · rintro x h' n' _ ⟨e, h1, rfl, rfl⟩
    subst hpk
    exact .none ⟨e, by rw [h1]; rfl, rfl, rfl⟩
  rintro r h' n1 _ ⟨z, l1, h1, rfl, rfl⟩
  rw [h1, Rd.bind_ok] at hQ hpk
  have hR := byR_len l1
  by_cases c1 : z < 0
  · simp -implicitDefEqProofs only [go_sem, rD, vN, c1]
    refine CallP.at [] [] (fail_call R s _ 4) rfl rfl (fun _ _ _ _ h => h.elim) ?_
    rintro x h' n' _ ⟨rfl, rfl⟩
    subst hpk
    exact .none ⟨4, if_pos c1, rfl, rfl⟩
  by_cases c2 : z > (l1.length : Int)
  · simp -implicitDefEqProofs only [go_sem, rD, vN, c1, c2, hR, rdH]
    refine CallP.at [] [] (fail_call R s _ 5) rfl rfl (fun _ _ _ _ h => h.elim) ?_
    rintro x h' n' _ ⟨rfl, rfl⟩
    subst hpk
    exact .none ⟨5, by rw [if_neg c1, if_pos c2], rfl, rfl⟩
  · simp -implicitDefEqProofs only [go_sem, rD, vN, c1, c2, hR, rdH]
    subst hQ
    exact .is ⟨z.toNat, l1, by rw [if_neg c1, if_neg c2], by show V.int .i64 z = .int .i64 ((z.toNat : Nat) : Int); rw [Int.toNat_of_nonneg (by omega)], rfl⟩
theorem byteV_byR : ∀ b : List Int, bstV (some (byR b)) = some (.str (txtB b)) := by
  have key : ∀ b : List Int, byteV (byR b) = some (txtB b) := by
    intro b
    induction b with
    | nil => rfl
    | cons c r ih =>
      show byteV ([.int .u8 c] :: byR r) = _
      rw [byteV, ih]
      rfl
  intro b
  rw [bstV, key]
theorem str_rd (R s n : Nat) (l : List Int) : CallP Tryd.prog 34 [.ptr R s 0 0] (rdH R s l) n (Gets R s (strP l) fun t => .str t) (Fails (strP l)) := by
  have ht := fun n => len_rd R s n l
  have hk := fun n k l => take_call R s n k l
  unfold strP
  refine CallP.enterK dump_reader_str_ok (Nat.le_of_ble_eq_true rfl) fun Q pk hQ hpk => Run.go 100 ?_
  simp -implicitDefEqProofs only [go_sem, rD, vN, initSl]
  refine CallP.at [0] [] (ht _) rfl rfl ?_ ?_
  rotate_left
  · rintro x h' n' _ ⟨e, h1, rfl, rfl⟩
    subst hpk
    exact .none ⟨e, by rw [h1]; rfl, rfl, rfl⟩
  rintro r h' n1 _ ⟨k, l1, h1, rfl, rfl⟩
  rw [h1, Rd.bind_ok] at hQ hpk
  simp -implicitDefEqProofs only [go_sem, rD, vN]
  refine CallP.at [0] [] (hk _ k l1) rfl rfl ?_ ?_
  rotate_left
  · rintro x h' n' _ ⟨e, h1, rfl, rfl⟩
    subst hpk
    exact .none ⟨e, by rw [h1]; rfl, rfl, rfl⟩
  rintro r h' n2 _ ⟨b, l2, h2, rfl, rfl⟩
  rw [h2, Rd.bind_ok] at hQ hpk
  have hbs := byteV_byR b
  dsimp only
  generalize byR b = BR at *
  simp -implicitDefEqProofs only [go_sem, rD, vN, hbs]
  subst hQ
  exact .is ⟨_, _, rfl, rfl, rfl⟩
theorem val_rd (s n : Nat) (l : List Int) (hl : allB l) : CallP Tryd.prog 38 [.ptr rD s 0 0] (rdH rD s l) n (Gets rD s (valP l) fun v => .agg v.row) (Fails (valP l)) := by
  have ht := fun n => take_call rD s n 1 l
  have htr := fun n l => truth_rd rD s n l
  have hnu := fun n l => num_rd rD s n l
  have hst := fun n l => str_rd rD s n l
  unfold valP
  refine CallP.enterK dump_reader_value_ok (Nat.le_of_ble_eq_true rfl) fun Q pk hQ hpk => Run.go 100 ?_
  unfold rdH
  simp -implicitDefEqProofs only [go_sem, rD, vN, initSl]
  refine CallP.at [1] [0] (ht _) rfl rfl ?_ ?_
  rotate_left
  · rintro x h' n' _ ⟨e, h1, rfl, rfl⟩
    subst hpk
    exact .none ⟨e, by rw [h1]; rfl, rfl, rfl⟩
  rintro r h' n1 _ ⟨b, l1, h1, rfl, rfl⟩
  rw [h1, Rd.bind_ok] at hQ hpk
  have hb := (takeP_inv h1).2
  obtain ⟨c, rfl⟩ : ∃ c, b = [c] := by match b, hb with | [c], _ => exact ⟨c, rfl⟩
  simp only [List.getD_cons_zero] at hQ hpk
  obtain ⟨rfl, _⟩ := takeP_inv h1
  have hc := hl c (by simp)
  unfold isB at hc
  have hw : IntKind.i64.wrap c = c := by rw [wrapi64]; omega
  by_cases c0 : c = 0
  · rw [if_pos c0] at hQ hpk
    subst c0
    simp -implicitDefEqProofs only [go_sem, rD, vN, byR, List.map_cons, List.map_nil, hw, rdH]
    subst hQ
    exact .to (h2 := rdH rD s l1) ⟨_, _, rfl, rfl, rfl⟩ (.turn id ⟨.refl _, trivial⟩ (by first | exact .at 2 rfl rfl (.refl _) (.of fun e he => by cases he) | exact .at 1 rfl rfl (.refl _) (.of fun e he => by cases he)))
  rw [if_neg c0] at hQ hpk
  by_cases c1 : c = 1
  · rw [if_pos c1] at hQ hpk
    subst c1
    simp -implicitDefEqProofs only [go_sem, rD, vN, byR, List.map_cons, List.map_nil, hw, rdH]
    refine CallP.at [1] [0, 2] (htr _ l1) rfl rfl ?_ ?_
    rotate_left
    · rintro x h' n' _ ⟨e, h1, rfl, rfl⟩
      subst hpk
      exact .none ⟨e, by rw [h1]; rfl, rfl, rfl⟩
    rintro r h' n2 _ ⟨t, l2, h2, rfl, rfl⟩
    rw [h2, Rd.bind_ok] at hQ
    cases t <;>
    · simp -implicitDefEqProofs only [go_sem, rD, vN, rdH]
      subst hQ
      exact .to (h2 := rdH rD s l2) ⟨_, _, rfl, rfl, rfl⟩ (.turn id ⟨.refl _, trivial⟩ (by first | exact .at 2 rfl rfl (.refl _) (.of fun e he => by cases he) | exact .at 1 rfl rfl (.refl _) (.of fun e he => by cases he)))
  rw [if_neg c1] at hQ hpk
  by_cases c2 : c = 2
  · rw [if_pos c2] at hQ hpk
    subst c2
    simp -implicitDefEqProofs only [go_sem, rD, vN, byR, List.map_cons, List.map_nil, hw, rdH]
    refine CallP.at [1] [0, 2] (hnu _ l1) rfl rfl ?_ ?_
    rotate_left
    · rintro x h' n' _ ⟨e, h1, rfl, rfl⟩
      subst hpk
      exact .none ⟨e, by rw [h1]; rfl, rfl, rfl⟩
    rintro r h' n2 _ ⟨p, l2, h2, rfl, rfl⟩
    rw [h2, Rd.bind_ok] at hQ hpk
    simp -implicitDefEqProofs only [go_sem, rD, vN, rdH]
    refine CallP.at [1] [0, 2] (hnu _ l2) rfl rfl ?_ ?_
    rotate_left
    · rintro x h' n' _ ⟨e, h1, rfl, rfl⟩
      subst hpk
      exact .none ⟨e, by rw [h1]; rfl, rfl, rfl⟩
    rintro r h' n3 _ ⟨q, l3, h3, rfl, rfl⟩
    rw [h3, Rd.bind_ok] at hQ hpk
    simp -implicitDefEqProofs only [go_sem, rD, vN, rdH]
    subst hQ
    exact .to (h2 := rdH rD s l3) ⟨_, _, rfl, rfl, rfl⟩ (.turn id ⟨.refl _, trivial⟩ (by first | exact .at 2 rfl rfl (.refl _) (.of fun e he => by cases he) | exact .at 1 rfl rfl (.refl _) (.of fun e he => by cases he)))
  rw [if_neg c2] at hQ hpk
  by_cases c3 : c = 3
  · rw [if_pos c3] at hQ hpk
    subst c3
    simp -implicitDefEqProofs only [go_sem, rD, vN, byR, List.map_cons, List.map_nil, hw, rdH]
    refine CallP.at [1] [0, 2] (hst _ l1) rfl rfl ?_ ?_
    rotate_left
    · rintro x h' n' _ ⟨e, h1, rfl, rfl⟩
      subst hpk
      exact .none ⟨e, by rw [h1]; rfl, rfl, rfl⟩
    rintro r h' n2 _ ⟨p, l2, h2, rfl, rfl⟩
    rw [h2, Rd.bind_ok] at hQ hpk
    simp -implicitDefEqProofs only [go_sem, rD, vN, rdH]
    subst hQ
    exact .to (h2 := rdH rD s l2) ⟨_, _, rfl, rfl, rfl⟩ (.turn id ⟨.refl _, trivial⟩ (by first | exact .at 2 rfl rfl (.refl _) (.of fun e he => by cases he) | exact .at 1 rfl rfl (.refl _) (.of fun e he => by cases he)))
  · rw [if_neg c3] at hQ hpk
    simp -implicitDefEqProofs only [go_sem, rD, vN, byR, List.map_cons, List.map_nil, hw, c0, c1, c2, c3, rdH]
    refine CallP.at [] [] (fail_call rD s _ 4) rfl rfl (fun _ _ _ _ h => h.elim) ?_
    rintro x h' n' _ ⟨rfl, rfl⟩
    subst hpk
    exact .none ⟨4, rfl, rfl, rfl⟩
end Go.Proofs.YtkjcokmbjdafnaaDoor
