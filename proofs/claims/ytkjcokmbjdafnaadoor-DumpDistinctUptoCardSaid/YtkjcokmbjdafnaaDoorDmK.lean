/-
  DumpDistinct, on arguments of a bounded bulk. No condition.
-/
import Derived.Test.YtkjcokmbjdafnaaDoorDmGV
import Derived.Test.YtkjcokmbjdafnaaDoorDmPS
import Derived.Test.YtkjcokmbjdafnaaDoorDmB
import Derived.Test.YtkjcokmbjdafnaaDoorFnQS
set_option linter.unusedVariables false
set_option linter.unusedSimpArgs false
set_option maxRecDepth 100000
set_option maxHeartbeats 0
namespace Go.Proofs.YtkjcokmbjdafnaaDoor
open Go Go.Abs
attribute [local irreducible] CallS CallP Run
theorem imp_of {X Y : Prop} (main : X → Y) (x : X) : Y := main x
theorem file_B (p : Fn) : allB (fileZ p) := (bodyZ_B p).app le4_B
theorem file_txt {p q : Fn} (h : txtB (fileZ p) = txtB (fileZ q)) : fileZ p = fileZ q := by
  have h1 := txtB_inv (file_B p)
  rw [h, txtB_inv (file_B q)] at h1
  exact h1.symm
theorem file_len (p : Fn) : (fileZ p).length = (encF p).length + 9 := by
  unfold fileZ bodyZ
  simp [le4]
theorem distinct_of (p q : Fn) (hp : p.bd) (hq : q.bd) (vp : v64L p.row) (vq : v64L q.row) (hbp : bkL p.row ≤ 1048576) (hbq : bkL q.row ≤ 1048576) (n : Int) : Pure Tryd.prog 3 [.agg p.row, .agg q.row, .int .i64 n] (.bool true) := by
  have aw := awake_pure
  have hEp := each_bk p
  have hFp := enc_len p
  have hEq := each_bk q
  have hFq := enc_len q
  obtain ⟨lp, hlp⟩ := large_pure p hp (by omega)
  obtain ⟨lq, hlq⟩ := large_pure q hq (by omega)
  have hputp := put_call p hp (Nat.le_trans (Fn.depth_each p) (by omega)) (by omega)
  have hputq := put_call q hq (Nat.le_trans (Fn.depth_each q) (by omega)) (by omega)
  have hsame := rsame_pure p q hp hq (by omega) (by omega)
  have hsx := fun (x : Fn) (hx : x.bd) (hc : x.each.length ≤ 1000000) => rsame_pure x p hx hp hc (by omega)
  have hps := Fn.row_sub lost p
  obtain ⟨g1, g2⟩ := fn_row11 p
  have hqs := Fn.row_sub lost q
  obtain ⟨k1, k2⟩ := fn_row11 q
  have hinj := fun h1 h2 => @file_inj p q h1 h2 vp vq (by unfold shortL; omega) (by unfold shortL; omega)
  have hflen := file_len p
  generalize p.row = pr at *
  generalize q.row = qr at *
  refine Pure.of 0 (CallS.enter scriptinglaw40_DumpDistinct_ok (Nat.le_of_ble_eq_true rfl) (Run.go 19 ?_))
  simp -implicitDefEqProofs only [go_sem, initSl, g1, g2, k1, k2]
  refine CallS.pureF hlp (by simp -implicitDefEqProofs only [go_sem, hps]) ?_
  cases lp
  rotate_left
  · simp -implicitDefEqProofs only [go_sem]
    refine CallS.pureF aw rfl ?_
    simp -implicitDefEqProofs only [go_sem]
  simp -implicitDefEqProofs only [go_sem, k1, k2]
  refine CallS.pureF hlq (by simp -implicitDefEqProofs only [go_sem, hqs]) ?_
  cases lq
  rotate_left
  · simp -implicitDefEqProofs only [go_sem]
    refine CallS.pureF aw rfl ?_
    simp -implicitDefEqProofs only [go_sem]
  simp -implicitDefEqProofs only [go_sem, g1, g2]
  refine CallS.pureF hputp (by simp -implicitDefEqProofs only [go_sem, hps]) ?_
  unfold putV
  by_cases c1 : chkE p = 0
  rotate_left
  · rw [if_neg c1]
    simp -implicitDefEqProofs only [go_sem, c1, k1, k2]
    refine CallS.pureF hputq (by simp -implicitDefEqProofs only [go_sem, hqs]) ?_
    unfold putV
    split <;>
    · simp -implicitDefEqProofs only [go_sem, c1]
      refine CallS.pureF aw rfl ?_
      simp -implicitDefEqProofs only [go_sem]
  rw [if_pos c1]
  simp -implicitDefEqProofs only [go_sem, c1, k1, k2]
  refine CallS.pureF hputq (by simp -implicitDefEqProofs only [go_sem, hqs]) ?_
  unfold putV
  by_cases c2 : chkE q = 0
  rotate_left
  · rw [if_neg c2]
    simp -implicitDefEqProofs only [go_sem, c2]
    refine CallS.pureF aw rfl ?_
    simp -implicitDefEqProofs only [go_sem]
  rw [if_pos c2]
  have hbp := byteV_byR (fileZ p)
  have hbq := byteV_byR (fileZ q)
  have hR := byR_len (fileZ p)
  have hS := byR_sz (fileZ p)
  have hB := file_B p
  have ht : ∀ k, (byR (fileZ p)).take k = byR ((fileZ p).take k) := fun k => by simp [byR]
  have tail : ∀ (k : Nat), k < (fileZ p).length → ∀ (kk : Res) (h : Heap) (m : Nat), (∀ e : Int, e ≠ 0 → kk (.tup [zeroF, .int .i64 e]) h m) → (∀ x : Fn, x ≠ p → x.bd → x.each.length ≤ 1000000 → kk (.tup [.agg x.row, .int .i64 0]) h m) → CallS Tryd.prog 8 [.isl (byR ((fileZ p).take k))] h m kk := by
    intro k hk kk h m K1 K2
    have hgM : good ((fileZ p).take k) := ⟨fun z hz => hB z (List.mem_of_mem_take hz), by rw [List.length_take]; omega⟩
    have hlM : ((fileZ p).take k).length = k := by rw [List.length_take]; omega
    generalize hM : (fileZ p).take k = M at *
    rcases Nat.lt_or_ge M.length 9 with h9 | h9
    · exact CallS.pureF (get_short M h9) (by simp -implicitDefEqProofs only [go_sem, byR_sub]) (K1 5 (by decide))
    obtain ⟨L, a, b, c, d, rfl, h5, hgL, hB4⟩ := split4 hgM h9
    refine CallS.pureF (get_call L a b c d h5 hgL) (by simp -implicitDefEqProofs only [go_sem, byR_sub]) ?_
    cases hG : getR L a b c d with
    | error e => exact K1 e (getR_nz hG)
    | ok x =>
      obtain ⟨e1, e2, e3, e4, e5⟩ := getR_ok hgL hB4 hG
      have hl2 := congrArg List.length e1
      rw [file_len] at hl2
      refine K2 x (fun hx => ?_) e3 (by have := enc_count x; omega)
      subst hx
      omega
  by_cases hpq : p = q
  · subst hpq
    have s1 := sameB_yes (rfl : p = p)
    rw [s1] at hsame
    generalize byR (fileZ p) = BR at *
    simp -implicitDefEqProofs only [go_sem, hbp, hbq, g1, g2, k1, k2]
    apply imp_of
    · intro h
      repeat' refine And.intro ?_ ?_
      all_goals (
        refine CallS.pureF hsame (by simp -implicitDefEqProofs only [go_sem, hps, hqs]) ?_
        simp -implicitDefEqProofs only [go_sem, hbp, hbq, g1, g2, k1, k2]
        exact h)
    refine Run.go 100 ?_
    by_cases d1 : n < 0
    · simp -implicitDefEqProofs only [go_sem, d1]
      refine CallS.pureF aw rfl ?_
      simp -implicitDefEqProofs only [go_sem]
    by_cases d2 : n ≥ ((fileZ p).length : Int)
    · simp -implicitDefEqProofs only [go_sem, d1, d2, hR]
      refine CallS.pureF aw rfl ?_
      simp -implicitDefEqProofs only [go_sem]
    obtain ⟨k, rfl⟩ := Int.eq_ofNat_of_zero_le (show 0 ≤ n by omega)
    have e0 : ((k : Int) - 0).toNat = k := by omega
    simp -implicitDefEqProofs only [go_sem, d1, d2, hR, hS, e0, ht]
    refine ⟨by omega, by omega, tail k (by omega) _ _ _ ?_ ?_⟩
    · intro e he
      simp -implicitDefEqProofs only [go_sem, zeroF, he]
      refine CallS.pureF aw rfl ?_
      simp -implicitDefEqProofs only [go_sem]
    · intro x hx hxb hxc
      have hsx' := hsx x hxb hxc
      rw [sameB_no hx] at hsx'
      have hxs := Fn.row_sub lost x
      obtain ⟨x1, x2⟩ := fn_row11 x
      simp -implicitDefEqProofs only [go_sem, x1, x2, g1, g2]
      refine CallS.pureF hsx' (by simp -implicitDefEqProofs only [go_sem, hxs, hps]) ?_
      simp -implicitDefEqProofs only [go_sem]
      refine CallS.pureF aw rfl ?_
      simp -implicitDefEqProofs only [go_sem]
  · have s1 := sameB_no hpq
    rw [s1] at hsame
    have ht3 : (txtB (fileZ p) = txtB (fileZ q)) = False := eq_false fun h => hpq (hinj c1 c2 (file_txt h))
    generalize byR (fileZ p) = BR at *
    generalize byR (fileZ q) = BQ at *
    simp -implicitDefEqProofs only [go_sem, hbp, hbq, g1, g2, k1, k2, ht3]
    apply imp_of
    · intro h
      repeat' refine And.intro ?_ ?_
      all_goals (
        refine CallS.pureF hsame (by simp -implicitDefEqProofs only [go_sem, hps, hqs]) ?_
        simp -implicitDefEqProofs only [go_sem, hbp, hbq, g1, g2, k1, k2, ht3]
        exact h)
    refine Run.go 100 ?_
    by_cases d1 : n < 0
    · simp -implicitDefEqProofs only [go_sem, d1]
      refine CallS.pureF aw rfl ?_
      simp -implicitDefEqProofs only [go_sem]
    by_cases d2 : n ≥ ((fileZ p).length : Int)
    · simp -implicitDefEqProofs only [go_sem, d1, d2, hR]
      refine CallS.pureF aw rfl ?_
      simp -implicitDefEqProofs only [go_sem]
    obtain ⟨k, rfl⟩ := Int.eq_ofNat_of_zero_le (show 0 ≤ n by omega)
    have e0 : ((k : Int) - 0).toNat = k := by omega
    simp -implicitDefEqProofs only [go_sem, d1, d2, hR, hS, e0, ht]
    refine ⟨by omega, by omega, tail k (by omega) _ _ _ ?_ ?_⟩
    · intro e he
      simp -implicitDefEqProofs only [go_sem, zeroF, he]
      refine CallS.pureF aw rfl ?_
      simp -implicitDefEqProofs only [go_sem]
    · intro x hx hxb hxc
      have hsx' := hsx x hxb hxc
      rw [sameB_no hx] at hsx'
      have hxs := Fn.row_sub lost x
      obtain ⟨x1, x2⟩ := fn_row11 x
      simp -implicitDefEqProofs only [go_sem, x1, x2, g1, g2]
      refine CallS.pureF hsx' (by simp -implicitDefEqProofs only [go_sem, hxs, hps]) ?_
      simp -implicitDefEqProofs only [go_sem]
      refine CallS.pureF aw rfl ?_
      simp -implicitDefEqProofs only [go_sem]
theorem dumpDistinct_args (n0 : List V) (w0 : Typed Tryd.prog 29 n0) (n1 : List V) (w1 : Typed Tryd.prog 29 n1) (n2 : Int) (w2 : (Lit.int .i64 n2).wf = true) (hsm : bkL [.agg n0, .agg n1, .int .i64 n2] ≤ 1048576) : Pure Tryd.prog 3 [.agg n0, .agg n1, .int .i64 n2] (.bool true) := by
  have v0 := typed64 w0
  have v1 := typed64 w1
  obtain ⟨p, rfl, hp, hb⟩ := fn_argsB w0
  obtain ⟨q, rfl, hq, hc⟩ := fn_argsB w1
  simp only [bkL, bkV] at hsm
  exact distinct_of p q hb hc v0 v1 (by omega) (by omega) n2
end Go.Proofs.YtkjcokmbjdafnaaDoor
