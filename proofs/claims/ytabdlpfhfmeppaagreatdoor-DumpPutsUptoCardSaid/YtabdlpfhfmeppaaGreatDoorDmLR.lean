/-
  Whether a function has many parts. No condition.
-/
import Derived.Test.YtabdlpfhfmeppaaGreatDoorFnCk
import Derived.Test.YtabdlpfhfmeppaaGreatDoorDmRR
import Derived.Test.YtabdlpfhfmeppaaGreatDoorDmCP
import Derived.Test.YtabdlpfhfmeppaaGreatDoorDmAS
import Derived.Test.YtabdlpfhfmeppaaGreatDoorDmBk
import Derived.Test.YtabdlpfhfmeppaaGreatDoorFnRc
set_option linter.unusedVariables false
set_option linter.unusedSimpArgs false
set_option maxRecDepth 100000
set_option maxHeartbeats 0
namespace Go.Proofs.YtabdlpfhfmeppaaGreatDoor
open Go.Abs
attribute [local irreducible] CallS Run
theorem rcount_pure (p : Fn) (hp : p.bd) (hc : p.each.length ≤ 1000000) : Pure Tryz.prog 8 [.agg p.row] (.int .i64 p.each.length) := by
  have he := reach_call p hp hc
  have hps := Fn.row_sub lost p
  obtain ⟨g1, g2⟩ := fn_row11 p
  have hlE : (p.each.map Fn.row).length = p.each.length := List.length_map ..
  generalize p.each.map Fn.row = ER at *
  generalize p.row = pr at *
  refine Pure.of 0 (CallS.enter scriptingref33_Count_ok (Nat.le_of_ble_eq_true rfl) (Run.go 100 ?_))
  simp -implicitDefEqProofs only [go_sem, initSl, g1, g2]
  refine CallS.pureF he (by simp -implicitDefEqProofs only [go_sem, hps]) ?_
  simp -implicitDefEqProofs only [go_sem, hlE]
theorem large_pure (p : Fn) (hp : p.bd) (hc : p.each.length ≤ 1000000) : ∃ b, Pure Tryz.prog 4 [.agg p.row] (.bool b) := by
  have h1 := rcount_pure p hp hc
  have h2 := rsize_pure p hp hc
  have hps := Fn.row_sub lost p
  obtain ⟨g1, g2⟩ := fn_row11 p
  generalize hn : (p.each.length : Int) = n at *
  generalize sizeL p.each = z at *
  generalize p.row = pr at *
  refine ⟨decide (n > 60 ∨ z > 2000), Pure.of 0 (CallS.enter scriptinglaw40_large_ok (Nat.le_of_ble_eq_true rfl) (Run.go 100 ?_))⟩
  simp -implicitDefEqProofs only [go_sem, initSl, g1, g2]
  refine CallS.pureF h1 (by simp -implicitDefEqProofs only [go_sem, hps]) ?_
  by_cases c1 : n > 60
  · simp -implicitDefEqProofs only [go_sem, c1]
  · simp -implicitDefEqProofs only [go_sem, c1, g1, g2]
    refine CallS.pureF h2 (by simp -implicitDefEqProofs only [go_sem, hps]) ?_
    simp -implicitDefEqProofs only [go_sem, c1]
    exact decide_eq_decide.2 (by omega)
-- EV: rI, rW
theorem le4_numN {s : Int} (hs : 0 ≤ s ∧ s < 4294967296) : le4 s = numN s 4 := by
  have f : ∀ (z : Int) (k : Nat), z.fdiv ((2 : Int) ^ k) = z / 2 ^ k := fun z k => Int.fdiv_eq_ediv_of_nonneg _ (by exact_mod_cast Nat.zero_le (2 ^ k))
  have w0 : IntKind.u64.wrap s = s := by show s % (2 ^ 64 : Int) = s; omega
  have g : ∀ z : Int, shZ false .u64 z 8 = z / 256 := fun z => f z 8
  have u1 : uN s 1 = s / 256 := by show shZ false .u64 (IntKind.u64.wrap s) 8 = _; rw [w0, g]
  have u2 : uN s 2 = s / 65536 := by show shZ false .u64 (uN s 1) 8 = _; rw [u1, g]; omega
  have u3 : uN s 3 = s / 16777216 := by show shZ false .u64 (uN s 2) 8 = _; rw [u2, g]; omega
  unfold le4
  rw [show shZ false .u32 s 8 = s / 256 from f s 8, show shZ false .u32 s 16 = s / 65536 from f s 16, show shZ false .u32 s 24 = s / 16777216 from f s 24]
  show _ = ((([] ++ [IntKind.u8.wrap (uN s 0)]) ++ [IntKind.u8.wrap (uN s 1)]) ++ [IntKind.u8.wrap (uN s 2)]) ++ [IntKind.u8.wrap (uN s 3)]
  rw [u1, u2, u3, show uN s 0 = s from w0]
  rfl
theorem fnz_mem : ∀ {l : List Int}, firstNZ l = 0 → ∀ x ∈ l, x = 0
  | [], _, x, hx => by cases hx
  | y :: r, h, x, hx => by
    rw [firstNZ] at h
    by_cases c : y = 0
    · rw [if_pos c] at h
      rcases List.mem_cons.1 hx with rfl | hx
      · exact c
      · exact fnz_mem h x hx
    · rw [if_neg c] at h
      exact (c h).elim
theorem chkE_truths {p : Fn} (h : chkE p = 0) : ∀ q ∈ p.each, ∀ v ∈ q.consts, truthOK v := by
  intro q hq v hv hk
  unfold chkE chkAll at h
  split at h
  · omega
  have hs : sglE q = 0 := fnz_mem h _ (List.mem_map.2 ⟨q, hq, rfl⟩)
  have hf : formE q = 0 := by
    unfold sglE at hs
    split at hs
    · omega
    split at hs
    · omega
    · rename_i h2; simpa using h2
  unfold formE at hf
  split at hf
  · rename_i hc
    have hb : badK v = false := by
      have := hc.2.2.2.2.2.2.2.2.1
      rw [List.any_eq_false] at this
      simpa using this v hv
    unfold badK at hb
    rw [Bool.or_eq_false_iff] at hb
    have hb := hb.2
    unfold validK at hb
    rw [if_neg (by omega), if_pos hk] at hb
    simp at hb
    by_cases h : v.ref = 0
    · exact .inl h
    · exact .inr (hb.1 h)
  · omega
theorem rput_call (p : Fn) (hp : p.bd) (hd : p.each.length ≤ 1000000) (hl : (encF p).length ≤ 100000000) : Pure Tryz.prog 7 [.agg p.row] (putV p) := by
  have hc := rcheck33_pure p hp hd
  have hps := Fn.row_sub lost p
  obtain ⟨g1, g2⟩ := fn_row11 p
  have hf := fun ht => rfunc_call p ht
  have hsum := rsum_pure (bodyZ p) (by unfold bodyZ; have : 10000000010 ≤ reachBytes := by decide
                                       simp; omega)
  generalize p.row = pr at *
  refine Pure.of 1 (CallS.enterK scriptingref40_Put_ok (Nat.le_of_ble_eq_true rfl) fun Q hQ => Run.go 100 ?_)
  simp -implicitDefEqProofs only [go_sem, rI, rW, initSl, g1, g2]
  refine CallS.pureF hc (by simp -implicitDefEqProofs only [go_sem, rI, rW, hps]) ?_
  unfold putV at hQ
  by_cases c : chkE p = 0
  · rw [if_pos c] at hQ
    simp -implicitDefEqProofs only [go_sem, rI, rW, c, g1, g2]
    refine CallS.at [] [0] (hf (chkE_truths c) _ hl) rfl rfl ?_
    rintro r h' n1 hn1 ⟨s1, X, eX, rfl, rfl⟩
    have hb : bodyZ p = [83, 67, 82, 66, 1] ++ X := by rw [eX]; rfl
    have hbl : (bodyZ p).length = X.length + 5 := by rw [hb]; simp
    have hXl : X.length ≤ 100000000 := by rw [eX]; exact hl
    have hbR : byR (bodyZ p) = [[.int .u8 83], [.int .u8 67], [.int .u8 82], [.int .u8 66], [.int .u8 1]] ++ byR X := by rw [hb, byR_app]; rfl
    unfold bk1
    simp -implicitDefEqProofs only [go_sem, rI, rW, byR_len, byR_sz, byR_take, leT]
    refine ⟨by omega, ?_⟩
    have hbR' : [V.int .u8 83] :: [V.int .u8 67] :: [V.int .u8 82] :: [V.int .u8 66] :: [V.int .u8 1] :: byR X = byR (bodyZ p) := hbR.symm
    have hbl' : 5 + X.length = (bodyZ p).length := by omega
    rw [hbR', hbl']
    have hfz := byR_frz (bodyZ p) 1
    refine CallS.view hsum 2 (by simp -implicitDefEqProofs only [go_sem, rI, rW, byR_len, byR_take, leT, hfz, List.drop_zero]; rfl) rfl ?_
    simp -implicitDefEqProofs only [go_sem, rI, rW, byR_len, byR_sz, byR_take, leT]
    refine CallS.at [] [0] (word_call (sumZ (bodyZ p)) 4 (by decide) _) rfl rfl ?_
    rintro r h' n2 hn2 ⟨s2, Y, eY, rfl, rfl⟩
    have hY : fileZ p = bodyZ p ++ Y := by rw [eY, ← le4_numN (sumZ_range _)]; rfl
    have hYl : Y.length = 4 := by rw [eY, numN_len]
    unfold bk1
    simp -implicitDefEqProofs only [go_sem, rI, rW, byR_len, byR_sz, byR_take, leT]
    rw [← byR_app (bodyZ p) Y, ← @List.length_append _ (bodyZ p) Y, ← hY]
    subst hQ
    have hfz0 := byR_frz (fileZ p) 0
    have hfl : (fileZ p).length = (bodyZ p).length + 4 := by rw [hY, List.length_append, hYl]
    refine ⟨by omega, .is ?_⟩
    simp -implicitDefEqProofs only [go_sem, rI, rW, byR_len, byR_take, leT, hfz0, List.drop_zero]
  · rw [if_neg c] at hQ
    simp -implicitDefEqProofs only [go_sem, rI, rW, c]
    subst hQ
    exact .is rfl
theorem byR_str : ∀ {l : List Int}, allB l → ∃ t : List UInt8, byR l = strRows t
  | [], _ => ⟨[], rfl⟩
  | z :: r, h => by
    obtain ⟨t, ht⟩ := byR_str (l := r) fun x hx => h x (List.mem_cons_of_mem _ hx)
    have hz : isB z := h z List.mem_cons_self
    refine ⟨UInt8.ofNat z.toNat :: t, ?_⟩
    have e : ((UInt8.ofNat z.toNat).toNat : Int) = z := by
      rw [UInt8.toNat_ofNat']
      have := hz.1; have := hz.2
      omega
    show [V.int .u8 z] :: byR r = [V.int .u8 ((UInt8.ofNat z.toNat).toNat : Int)] :: strRows t
    rw [e, ht]
theorem puts_of_law (p : Fn) (hp : p.bd) (hb : bkL p.row ≤ 1048576) : Pure Tryz.prog 3 [.agg p.row] (.bool true) := by
  have hE := each_bk p
  have hF := enc_len p
  obtain ⟨lg, hlg⟩ := large_pure p hp (by omega)
  have hput := put_call p hp (Nat.le_trans (Fn.depth_each p) (by omega)) (by omega)
  have hrput := rput_call p hp (by omega) (by omega)
  have aw := awake_pure
  have hps := Fn.row_sub lost p
  obtain ⟨g1, g2⟩ := fn_row11 p
  generalize p.row = pr at *
  refine Pure.of 0 (CallS.enter scriptinglaw40_DumpPuts_ok (Nat.le_of_ble_eq_true rfl) (Run.go 100 ?_))
  simp -implicitDefEqProofs only [go_sem, rI, rW, initSl, g1, g2]
  refine CallS.pureF hlg (by simp -implicitDefEqProofs only [go_sem, rI, rW, hps]) ?_
  cases lg
  rotate_left
  · simp -implicitDefEqProofs only [go_sem, rI, rW]
    refine CallS.pureF aw rfl ?_
    simp -implicitDefEqProofs only [go_sem, rI, rW]
  simp -implicitDefEqProofs only [go_sem, rI, rW, g1, g2]
  refine CallS.pureF hput (by simp -implicitDefEqProofs only [go_sem, rI, rW, hps]) ?_
  unfold putV at hrput ⊢
  by_cases c1 : chkE p = 0
  rotate_left
  · rw [if_neg c1] at hrput ⊢
    simp -implicitDefEqProofs only [go_sem, rI, rW, g1, g2]
    refine CallS.pureF hrput (by simp -implicitDefEqProofs only [go_sem, rI, rW, hps]) ?_
    have hb0 : bstV (some []) = some (.str []) := rfl
    simp -implicitDefEqProofs only [go_sem, rI, rW, hb0]
    refine CallS.pureF aw rfl ?_
    simp -implicitDefEqProofs only [go_sem, rI, rW]
  rw [if_pos c1] at hrput ⊢
  have hU := byR_sub (fileZ p)
  obtain ⟨t, ht⟩ := byR_str ((bodyZ_B p).app le4_B : allB (fileZ p))
  have hbst : bstV (some (byR (fileZ p))) = some (.str t) := by rw [show byR (fileZ p) = strRows t from ht]; exact bstV_strRows
  generalize byR (fileZ p) = BR at *
  simp -implicitDefEqProofs only [go_sem, rI, rW, g1, g2, hU]
  refine CallS.pureF hrput (by simp -implicitDefEqProofs only [go_sem, rI, rW, hps]) ?_
  simp -implicitDefEqProofs only [go_sem, rI, rW, hU, hbst]
  refine CallS.pureF aw rfl ?_
  simp -implicitDefEqProofs only [go_sem, rI, rW]
theorem dumpPuts_args (n0 : List V) (w0 : Typed Tryz.prog 29 n0) (hsm : bkL [.agg n0] ≤ 1048576) : Pure Tryz.prog 3 [.agg n0] (.bool true) := by
  obtain ⟨p, rfl, hp, hb⟩ := fn_argsB w0
  simp only [bkL, bkV] at hsm
  exact puts_of_law p hb (by omega)
end Go.Proofs.YtabdlpfhfmeppaaGreatDoor
