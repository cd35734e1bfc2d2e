/-
  What Get and Load answer where the checksum does not fit. No condition.
-/
import Derived.Test.YtkjcokmbjdafnaaDoorDmC
import Derived.Test.YtkjcokmbjdafnaaDoorFnM9
import Derived.Test.YtkjcokmbjdafnaaDoorCode
import Derived.Test.YtkjcokmbjdafnaaDoorFnCk
set_option linter.unusedVariables false
set_option linter.unusedSimpArgs false
set_option maxRecDepth 1000000
set_option maxHeartbeats 0
namespace Go.Proofs.YtkjcokmbjdafnaaDoor
open Go.Abs
attribute [local irreducible] CallS Run
theorem byR_sub (l : List Int) : (byR l).map (fun r => r.map (V.sub lost)) = byR l := by simp [byR, V.sub]
def zeroF : V := .agg [.str [], .int .i64 0, .int .i64 0, .bool false, .int .i64 0, .isl [], .isl [], .isl [], .isl [], .isl [], .isl []]
theorem get_sum (M : List Int) (a b c d : Int) (h5 : 5 ≤ M.length) (hl : M.length ≤ 10000000000) (hne : V4 a b c d ≠ sumZ M) : Pure Tryd.prog 8 [.isl (byR (M ++ [a, b, c, d]))] (.tup [zeroF, .int .i64 20]) := by
  have hs := sum_pure M (by have : 10000000000 ≤ reachBytes := by decide
                            omega)
  have hR : (byR (M ++ [a, b, c, d])).length = M.length + 4 := by rw [byR_len]; simp
  have hS := byR_sz (M ++ [a, b, c, d])
  have ha : (byR (M ++ [a, b, c, d]))[M.length]? = some [.int .u8 a] := by simp [byR]
  have hb : (byR (M ++ [a, b, c, d]))[M.length + 1]? = some [.int .u8 b] := by simp [byR]
  have hc : (byR (M ++ [a, b, c, d]))[M.length + 2]? = some [.int .u8 c] := by simp [byR]
  have hd : (byR (M ++ [a, b, c, d]))[M.length + 3]? = some [.int .u8 d] := by simp [byR]
  have ht : (byR (M ++ [a, b, c, d])).take M.length = byR M := by simp [byR]
  generalize byR (M ++ [a, b, c, d]) = BR at *
  generalize M.length = L at *
  refine Pure.of 0 (CallS.enterK dump_Get_ok (Nat.le_of_ble_eq_true rfl) fun Q hQ => Run.go 100 ?_)
  have e0 : (L : Int) + 4 - 4 = (L : Int) := by omega
  have e1 : ((L + 4 : Nat) : Int) = (L : Int) + 4 := by omega
  have c5 : ((L : Int) < 5) = False := eq_false (by omega)
  have t1 : ((L : Int) + 1).toNat = L + 1 := by omega
  have t2 : ((L : Int) + 2).toNat = L + 2 := by omega
  have t3 : ((L : Int) + 3).toNat = L + 3 := by omega
  have q0 : ((0 : Int) ≤ (L : Int)) = True := eq_true (by omega)
  have q1 : ((L : Int) < (L : Int) + 4) = True := eq_true (by omega)
  have u0 : (L < L + 4) = True := eq_true (by omega)
  have u1 : (L + 1 < L + 4) = True := eq_true (by omega)
  have u2 : (L + 2 < L + 4) = True := eq_true (by omega)
  have u3 : (L + 3 < L + 4) = True := eq_true (by omega)
  have v1 : ((L : Int) + 1 < (L : Int) + 4) = True := eq_true (by omega)
  have v2 : ((L : Int) + 2 < (L : Int) + 4) = True := eq_true (by omega)
  have v3 : ((L : Int) + 3 < (L : Int) + 4) = True := eq_true (by omega)
  have p1 : ((0 : Int) ≤ (L : Int) + 1) = True := eq_true (by omega)
  have p2 : ((0 : Int) ≤ (L : Int) + 2) = True := eq_true (by omega)
  have p3 : ((0 : Int) ≤ (L : Int) + 3) = True := eq_true (by omega)
  simp -implicitDefEqProofs only [go_sem, initSl, hR, hS, e0, e1, c5, t1, t2, t3, q0, q1, u0, u1, u2, u3, v1, v2, v3, p1, p2, p3, ha, hb, hc, hd, Option.some.injEq, forall_eq', Int.toNat_natCast]
  have hsub : ((L : Int) - 0).toNat = L := by omega
  rw [hsub, ht]
  refine ⟨by omega, by omega, by omega, by omega, by omega, CallS.pureF hs (by simp -implicitDefEqProofs only [go_sem, byR_sub]) ?_⟩
  have hne' := eq_false hne
  unfold V4 at hne'
  simp -implicitDefEqProofs only [go_sem, hne']
  subst hQ
  exact .is rfl
def smallI : Ins := ⟨18, 0, 0, 0, 0⟩
def smallF : Fn := ⟨[109, 97, 105, 110], 0, 0, true, 1, [smallI], [1], [], [], [], []⟩
def i5 (a b c d e : Int) : List V := [.int .i64 a, .int .i64 b, .int .i64 c, .int .i64 d, .int .i64 e]
def smallR : List V := [.str [109, 97, 105, 110], .int .i64 0, .int .i64 0, .bool true, .int .i64 1, .isl [i5 18 0 0 0 0], .isl [[.int .i64 1]], .isl [], .isl [], .isl [], .isl []]
theorem small_row : smallF.row = smallR := by rw [Fn.row_eq]; rfl
def n8 (n : Nat) : List Nat := [n, 0, 0, 0, 0, 0, 0, 0]
def bytV (l : List Nat) : List (List V) := l.map fun (n : Nat) => [V.int .u8 (n : Int)]
def bodyL : List Nat := n8 4 ++ [109, 97, 105, 110] ++ n8 0 ++ n8 0 ++ [1] ++ n8 1 ++ n8 1 ++ n8 18 ++ n8 0 ++ n8 0 ++ n8 0 ++ n8 0 ++ n8 1 ++ n8 1 ++ n8 0 ++ n8 0 ++ n8 0 ++ n8 0
def sumL : List Nat := [236, 73, 49, 172]
def allL : List Nat := [83, 67, 82, 66, 1] ++ bodyL ++ sumL
def libOf (T : List (FuncId × List V × V)) (lib : Caller) : Caller := fun f xs h n => find f xs h n T
where
  find (f : FuncId) (xs : List V) (h : Heap) (n : Nat) : List (FuncId × List V × V) → Outs
    | [] => lib f xs h n
    | e :: r => bif Nat.beq e.1 f && V.beqL e.2.1 xs then oneO e.2.2 h n else find f xs h n r
theorem libOf_ok {T : List (FuncId × List V × V)} {lib : Caller} (hT : ∀ e ∈ T, Abs.Pure Tryd.prog e.1 e.2.1 e.2.2 ∧ e.2.1.map (V.sub lost) = e.2.1) (hl : CallerOK Tryd.prog lib) : CallerOK Tryd.prog (libOf T lib) := by
  intro f xs h n k hg
  have key : ∀ T' : List (FuncId × List V × V), (∀ e ∈ T', e ∈ T) → Go.Abs.Good (libOf.find lib f xs h n T') k → CallS Tryd.prog f xs h n k := by
    intro T'
    induction T' with
    | nil => exact fun _ hg => hl f xs h n k hg
    | cons e r ih =>
      intro hm hg
      simp only [libOf.find] at hg
      cases hb : Nat.beq e.1 f && V.beqL e.2.1 xs with
      | false => rw [hb] at hg; exact ih (fun x hx => hm x (List.mem_cons_of_mem _ hx)) hg
      | true =>
        rw [hb, cond_true] at hg
        rw [Bool.and_eq_true] at hb
        obtain ⟨h1, h2⟩ := hT e (hm e List.mem_cons_self)
        rw [← Nat.eq_of_beq_eq_true hb.1, ← V.beqL_eq hb.2]
        exact CallS.pure h1 h2 hg.one
  exact key T (fun _ h => h) hg
theorem small_chk : chkE smallF = 0 := by decide +kernel
theorem small_check : Abs.Pure Tryd.prog 13 [.agg smallR] (.int .i64 0) := by
  have hb : smallF.bd := by
    intro q hq
    rw [Fn.each_eq] at hq
    obtain rfl := List.mem_singleton.1 (show q ∈ [smallF] from hq)
    exact ⟨by decide, by decide, by decide, by decide, by decide, by decide⟩
  have h := pcheck_pure smallF hb (by rw [Fn.depth_eq]; decide)
  rw [small_chk, small_row] at h
  exact h
theorem small_pure : Abs.Pure Tryd.prog 11 [] (.agg smallR) :=
  Pure.execB (m := 20000) (d := 20) (fr := 1) exT_ok noLib_ok (by kernel_rfl)
theorem decode_pure : Abs.Pure Tryd.prog 17 [.isl (bytV bodyL)] (.tup [.agg smallR, .int .i64 0]) :=
  Pure.execB (m := 20000) (d := 20) (fr := 1) exT_ok noLib_ok (by kernel_rfl)
theorem same_pure : Abs.Pure Tryd.prog 7 [.agg smallR, .agg smallR] (.bool true) :=
  Pure.execB (m := 20000) (d := 20) (fr := 1) exT_ok noLib_ok (by kernel_rfl)
def libC : Caller := libOf [(13, [.agg smallR], .int .i64 0), (17, [.isl (bytV bodyL)], .tup [.agg smallR, .int .i64 0])] noLib
theorem libC_ok : CallerOK Tryd.prog libC := libOf_ok (fun e he => by
  simp only [List.mem_cons, List.not_mem_nil, or_false] at he
  rcases he with rfl | rfl
  · exact ⟨small_check, rfl⟩
  · exact ⟨decode_pure, rfl⟩) noLib_ok
theorem put_pure : Abs.Pure Tryd.prog 6 [.agg smallR] (.tup [.isl (bytV allL), .int .i64 0]) :=
  Pure.execB (m := 20000) (d := 20) (fr := 1) exT_ok libC_ok (by kernel_rfl)
theorem get_pure : Abs.Pure Tryd.prog 8 [.isl (bytV allL)] (.tup [.agg smallR, .int .i64 0]) :=
  Pure.execB (m := 20000) (d := 20) (fr := 1) exT_ok libC_ok (by kernel_rfl)
def libW : Caller := libOf [
  (11, [], .agg smallR),
  (6, [.agg smallR], .tup [.isl (bytV allL), .int .i64 0]),
  (8, [.isl (bytV allL)], .tup [.agg smallR, .int .i64 0]),
  (7, [.agg smallR, .agg smallR], .bool true)] noLib
theorem libW_ok : CallerOK Tryd.prog libW := libOf_ok (fun e he => by
  simp only [List.mem_cons, List.not_mem_nil, or_false] at he
  rcases he with rfl | rfl | rfl | rfl
  · exact ⟨small_pure, rfl⟩
  · exact ⟨put_pure, rfl⟩
  · exact ⟨get_pure, rfl⟩
  · exact ⟨same_pure, rfl⟩) noLib_ok
theorem awake_pure : Abs.Pure Tryd.prog 5 [] (.bool true) :=
  Pure.execB (m := 20000) (d := 20) (fr := 1) exT_ok libW_ok (by kernel_rfl)
-- EV: dW, dB
theorem byR_frz (l : List Int) (d : Nat) (h : Heap) : (byR l).map (fun r => r.map (frz d h)) = byR l := by
  have e : ∀ a : Int, frz d h (.int .u8 a) = .int .u8 a := fun a => by cases d <;> rfl
  simp [byR, e]
def putV (p : Fn) : V := if chkE p = 0 then .tup [.isl (byR (fileZ p)), .int .i64 0] else .tup [.isl [], .int .i64 (chkE p)]
theorem put_call (p : Fn) (hp : p.bd) (hd : p.depth ≤ 1000000) (hl : (encF p).length ≤ 10000000000) : Pure Tryd.prog 6 [.agg p.row] (putV p) := by
  have hc := pcheck_pure p hp hd
  have hps := Fn.row_sub lost p
  obtain ⟨g1, g2⟩ := fn_row11 p
  have hf := fun s n => puts_of (func_call p 2 s n [83, 67, 82, 66, 1] (by simp; omega))
  have hsum := sum_pure (bodyZ p) (by unfold bodyZ; have : 10000000010 ≤ reachBytes := by decide
                                      simp; omega)
  generalize p.row = pr at *
  refine Pure.of 1 (CallS.enterK dump_Put_ok (Nat.le_of_ble_eq_true rfl) fun Q hQ => Run.go 100 ?_)
  simp -implicitDefEqProofs only [go_sem, dW, dB, initSl, g1, g2]
  refine CallS.pureF hc (by simp -implicitDefEqProofs only [go_sem, dW, dB, hps]) ?_
  unfold putV at hQ
  by_cases c : chkE p = 0
  · rw [if_pos c] at hQ
    simp -implicitDefEqProofs only [go_sem, dW, dB, c, g1, g2]
    refine CallS.at [0, 1] [2] (hf _ _) rfl rfl ?_
    rintro r h' n1 hn1 ⟨rfl, s1, L, e1, k1, rfl⟩
    have e2 : L = bodyZ p := e1
    rw [← e2] at hsum
    have hR := byR_len L
    have hS := byR_sz L
    have hT := byR_take L
    have hB := fun h => byR_frz L 0 h
    have hB2 := fun h => byR_frz L 2 h
    have k2 : L.length ≤ 10000000005 := by rw [k1]; simp; omega
    have hW : byR (fileZ p) = byR L ++ [[.int .u8 (IntKind.u8.wrap (sumZ L))], [.int .u8 (IntKind.u8.wrap (shZ false .u32 (sumZ L) 8))], [.int .u8 (IntKind.u8.wrap (shZ false .u32 (sumZ L) 16))], [.int .u8 (IntKind.u8.wrap (shZ false .u32 (sumZ L) 24))]] := by
      unfold fileZ
      rw [← e2, byR_app]
      rfl
    rw [hW] at hQ
    rw [show (L.map fun z => [V.int .u8 z]) = byR L from rfl] at hsum
    unfold wrH
    generalize byR L = BR at *
    generalize sumZ L = z at *
    generalize L.length = m at *
    have f1 : (m ≤ m) = True := eq_true (Nat.le_refl _)
    simp -implicitDefEqProofs only [go_sem, dW, dB, hR, hS, hT, f1]
    refine CallS.view hsum 3 (by simp -implicitDefEqProofs only [go_sem, dW, dB, hR, hT, hB2, List.drop_zero]) rfl ?_
    simp -implicitDefEqProofs only [go_sem, dW, dB, hR, hS, hT, f1]
    subst hQ
    refine ⟨by omega, .is ?_⟩
    have f2 : (m + 4 ≤ m + 4) = True := eq_true (Nat.le_refl _)
    have hT2 : ∀ a b c d : List V, (BR ++ [a, b, c, d]).take (m + 4) = BR ++ [a, b, c, d] := fun a b c d => List.take_of_length_le (by simp [hR])
    simp -implicitDefEqProofs only [go_sem, dW, dB, hR, hT2, hB, List.drop_zero, f2, List.map_append]
  · rw [if_neg c] at hQ
    simp -implicitDefEqProofs only [go_sem, dW, dB, c]
    subst hQ
    exact .is rfl
theorem rcount_pure (p : Fn) (hp : p.bd) (hc : p.each.length ≤ 1000000) : Pure Tryd.prog 9 [.agg p.row] (.int .i64 p.each.length) := by
  have he := reach_call p hp hc
  have hps := Fn.row_sub lost p
  obtain ⟨g1, g2⟩ := fn_row11 p
  have hlE : (p.each.map Fn.row).length = p.each.length := List.length_map ..
  generalize p.each.map Fn.row = ER at *
  generalize p.row = pr at *
  refine Pure.of 0 (CallS.enter scriptingref33_Count_ok (Nat.le_of_ble_eq_true rfl) (Run.go 100 ?_))
  simp -implicitDefEqProofs only [go_sem, initSl, g1, g2]
  refine CallS.pureF he (by simp -implicitDefEqProofs only [go_sem, hps]) ?_
  simp -implicitDefEqProofs only [go_sem, hlE]
theorem large_pure (p : Fn) (hp : p.bd) (hc : p.each.length ≤ 1000000) : ∃ b, Pure Tryd.prog 4 [.agg p.row] (.bool b) := by
  have h1 := rcount_pure p hp hc
  have h2 := rsize_pure p hp hc
  have hps := Fn.row_sub lost p
  obtain ⟨g1, g2⟩ := fn_row11 p
  generalize hn : (p.each.length : Int) = n at *
  generalize sizeL p.each = z at *
  generalize p.row = pr at *
  refine ⟨decide (n > 60 ∨ z > 2000), Pure.of 0 (CallS.enter scriptinglaw40_large_ok (Nat.le_of_ble_eq_true rfl) (Run.go 100 ?_))⟩
  simp -implicitDefEqProofs only [go_sem, initSl, g1, g2]
  refine CallS.pureF h1 (by simp -implicitDefEqProofs only [go_sem, hps]) ?_
  by_cases c1 : n > 60
  · simp -implicitDefEqProofs only [go_sem, c1]
  · simp -implicitDefEqProofs only [go_sem, c1, g1, g2]
    refine CallS.pureF h2 (by simp -implicitDefEqProofs only [go_sem, hps]) ?_
    simp -implicitDefEqProofs only [go_sem, c1]
    exact decide_eq_decide.2 (by omega)
end Go.Proofs.YtkjcokmbjdafnaaDoor
