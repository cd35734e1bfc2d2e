/-
  ProtoSpoils: the walk. No condition.
-/
import Derived.Test.YtmhbbaheponmoaaDoorFnX
import Derived.Test.YtmhbbaheponmoaaDoorFnV
set_option linter.unusedVariables false
set_option linter.unusedSimpArgs false
set_option maxRecDepth 100000
set_option maxHeartbeats 0
namespace Go.Proofs.YtmhbbaheponmoaaDoor
open Go.Abs
attribute [local irreducible] CallS Run RndS

theorem Fn.Le.spoil {p : Fn} (h : p.Le) (k : Nat) (x : Ins) : (p.spoil k x).Le := ⟨by simpa [Fn.spoil] using h.code, h.lines, h.consts, h.protos, h.ups, h.vars⟩
theorem Fn.bd.spoil {p : Fn} (h : p.bd) (k : Nat) (x : Ins) : (p.spoil k x).bd := fun q hq => by
  rw [Fn.each_eq] at hq
  rcases List.mem_cons.1 hq with rfl | hq
  · exact h.self.spoil k x
  · exact h q (by rw [Fn.each_eq]; exact List.mem_cons_of_mem _ hq)

theorem FrzL.mid {st : Nat} {rs : List (List V)} {x y : V} (hx : Frz st rs x y) (z : List V) : ∀ a : List V, FrzL st rs (a ++ [x] ++ z) (a ++ [y] ++ z)
  | [] => ⟨hx, FrzL.same z⟩
  | c :: a => ⟨.of (.refl c), FrzL.mid hx z a⟩

theorem protoSpoils_args (n0 : List V) (w0 : Typed Tryd.prog 29 n0) (n1 : Int) (w1 : (Lit.int .u16 n1).wf = true) : Pure Tryd.prog 4 [.agg n0, .int .u16 n1] (.bool true) := by
  obtain ⟨p, rfl, hp⟩ := fn_args w0
  have lp := large_call p hp
  obtain ⟨f1, f2⟩ := fn_row11 p
  have sp := Fn.row_sub lost p
  refine Pure.of 1 (CallS.enter scriptinglaw33_ProtoSpoils_ok (Nat.le_of_ble_eq_true rfl) (Run.go 100 ?_))
  cases hL : largeB p with
  | true =>
    rw [hL] at lp
    generalize p.row = pr at *
    simp -implicitDefEqProofs only [go_sem, Nat.reduceEqDiff, Nat.reduceAdd, Nat.reduceSub, Nat.reduceMul, Nat.reduceLeDiff, Nat.reduceLT, Nat.reduceBEq, Int.reduceToNat, Int.reduceLE, Int.reduceLT, Int.reduceEq, Int.reduceNe, Int.reduceAdd, Int.reduceSub, Int.reduceNeg, Int.toNat_natCast, Int.cast_ofNat_Int, Int.natCast_zero, Int.natCast_one, reduceCtorEq, reduceIte, Nat.lt_irrefl, and_self, not_false_eq_true, not_true_eq_false, initSl, f1, f2]
    refine CallS.pureF lp (by simp -implicitDefEqProofs only [go_sem, Nat.reduceEqDiff, Nat.reduceAdd, Nat.reduceSub, Nat.reduceMul, Nat.reduceLeDiff, Nat.reduceLT, Nat.reduceBEq, Int.reduceToNat, Int.reduceLE, Int.reduceLT, Int.reduceEq, Int.reduceNe, Int.reduceAdd, Int.reduceSub, Int.reduceNeg, Int.toNat_natCast, Int.cast_ofNat_Int, Int.natCast_zero, Int.natCast_one, reduceCtorEq, reduceIte, Nat.lt_irrefl, and_self, not_false_eq_true, not_true_eq_false, sp]) ?_
    simp -implicitDefEqProofs only [go_sem, Nat.reduceEqDiff, Nat.reduceAdd, Nat.reduceSub, Nat.reduceMul, Nat.reduceLeDiff, Nat.reduceLT, Nat.reduceBEq, Int.reduceToNat, Int.reduceLE, Int.reduceLT, Int.reduceEq, Int.reduceNe, Int.reduceAdd, Int.reduceSub, Int.reduceNeg, Int.toNat_natCast, Int.cast_ofNat_Int, Int.natCast_zero, Int.natCast_one, reduceCtorEq, reduceIte, Nat.lt_irrefl, and_self, not_false_eq_true, not_true_eq_false]
    refine CallS.pureF lives_pure (by simp -implicitDefEqProofs only [go_sem, Nat.reduceEqDiff, Nat.reduceAdd, Nat.reduceSub, Nat.reduceMul, Nat.reduceLeDiff, Nat.reduceLT, Nat.reduceBEq, Int.reduceToNat, Int.reduceLE, Int.reduceLT, Int.reduceEq, Int.reduceNe, Int.reduceAdd, Int.reduceSub, Int.reduceNeg, Int.toNat_natCast, Int.cast_ofNat_Int, Int.natCast_zero, Int.natCast_one, reduceCtorEq, reduceIte, Nat.lt_irrefl, and_self, not_false_eq_true, not_true_eq_false]) ?_
    simp -implicitDefEqProofs only [go_sem, Nat.reduceEqDiff, Nat.reduceAdd, Nat.reduceSub, Nat.reduceMul, Nat.reduceLeDiff, Nat.reduceLT, Nat.reduceBEq, Int.reduceToNat, Int.reduceLE, Int.reduceLT, Int.reduceEq, Int.reduceNe, Int.reduceAdd, Int.reduceSub, Int.reduceNeg, Int.toNat_natCast, Int.cast_ofNat_Int, Int.natCast_zero, Int.natCast_one, reduceCtorEq, reduceIte, Nat.lt_irrefl, and_self, not_false_eq_true, not_true_eq_false]
  | false =>
    rw [hL] at lp
    have hS := small_of hL
    have hb := hS.bd
    have hc : p.each.length ≤ 1000000 := Nat.le_trans hS.count (by decide)
    have hd : p.depth ≤ 1000000 := Nat.le_trans (Fn.depth_each p) hc
    have cc := pcheck_pure p hb hd
    by_cases ck : chkE p = 0
    case neg =>
      generalize chkE p = z at *
      generalize p.row = pr at *
      simp -implicitDefEqProofs only [go_sem, Nat.reduceEqDiff, Nat.reduceAdd, Nat.reduceSub, Nat.reduceMul, Nat.reduceLeDiff, Nat.reduceLT, Nat.reduceBEq, Int.reduceToNat, Int.reduceLE, Int.reduceLT, Int.reduceEq, Int.reduceNe, Int.reduceAdd, Int.reduceSub, Int.reduceNeg, Int.toNat_natCast, Int.cast_ofNat_Int, Int.natCast_zero, Int.natCast_one, reduceCtorEq, reduceIte, Nat.lt_irrefl, and_self, not_false_eq_true, not_true_eq_false, initSl, f1, f2]
      refine CallS.pureF lp (by simp -implicitDefEqProofs only [go_sem, Nat.reduceEqDiff, Nat.reduceAdd, Nat.reduceSub, Nat.reduceMul, Nat.reduceLeDiff, Nat.reduceLT, Nat.reduceBEq, Int.reduceToNat, Int.reduceLE, Int.reduceLT, Int.reduceEq, Int.reduceNe, Int.reduceAdd, Int.reduceSub, Int.reduceNeg, Int.toNat_natCast, Int.cast_ofNat_Int, Int.natCast_zero, Int.natCast_one, reduceCtorEq, reduceIte, Nat.lt_irrefl, and_self, not_false_eq_true, not_true_eq_false, sp]) ?_
      simp -implicitDefEqProofs only [go_sem, Nat.reduceEqDiff, Nat.reduceAdd, Nat.reduceSub, Nat.reduceMul, Nat.reduceLeDiff, Nat.reduceLT, Nat.reduceBEq, Int.reduceToNat, Int.reduceLE, Int.reduceLT, Int.reduceEq, Int.reduceNe, Int.reduceAdd, Int.reduceSub, Int.reduceNeg, Int.toNat_natCast, Int.cast_ofNat_Int, Int.natCast_zero, Int.natCast_one, reduceCtorEq, reduceIte, Nat.lt_irrefl, and_self, not_false_eq_true, not_true_eq_false, f1, f2]
      refine CallS.pureF cc (by simp -implicitDefEqProofs only [go_sem, Nat.reduceEqDiff, Nat.reduceAdd, Nat.reduceSub, Nat.reduceMul, Nat.reduceLeDiff, Nat.reduceLT, Nat.reduceBEq, Int.reduceToNat, Int.reduceLE, Int.reduceLT, Int.reduceEq, Int.reduceNe, Int.reduceAdd, Int.reduceSub, Int.reduceNeg, Int.toNat_natCast, Int.cast_ofNat_Int, Int.natCast_zero, Int.natCast_one, reduceCtorEq, reduceIte, Nat.lt_irrefl, and_self, not_false_eq_true, not_true_eq_false, sp]) ?_
      simp -implicitDefEqProofs only [go_sem, Nat.reduceEqDiff, Nat.reduceAdd, Nat.reduceSub, Nat.reduceMul, Nat.reduceLeDiff, Nat.reduceLT, Nat.reduceBEq, Int.reduceToNat, Int.reduceLE, Int.reduceLT, Int.reduceEq, Int.reduceNe, Int.reduceAdd, Int.reduceSub, Int.reduceNeg, Int.toNat_natCast, Int.cast_ofNat_Int, Int.natCast_zero, Int.natCast_one, reduceCtorEq, reduceIte, Nat.lt_irrefl, and_self, not_false_eq_true, not_true_eq_false, ck]
      refine CallS.pureF lives_pure (by simp -implicitDefEqProofs only [go_sem, Nat.reduceEqDiff, Nat.reduceAdd, Nat.reduceSub, Nat.reduceMul, Nat.reduceLeDiff, Nat.reduceLT, Nat.reduceBEq, Int.reduceToNat, Int.reduceLE, Int.reduceLT, Int.reduceEq, Int.reduceNe, Int.reduceAdd, Int.reduceSub, Int.reduceNeg, Int.toNat_natCast, Int.cast_ofNat_Int, Int.natCast_zero, Int.natCast_one, reduceCtorEq, reduceIte, Nat.lt_irrefl, and_self, not_false_eq_true, not_true_eq_false]) ?_
      simp -implicitDefEqProofs only [go_sem, Nat.reduceEqDiff, Nat.reduceAdd, Nat.reduceSub, Nat.reduceMul, Nat.reduceLeDiff, Nat.reduceLT, Nat.reduceBEq, Int.reduceToNat, Int.reduceLE, Int.reduceLT, Int.reduceEq, Int.reduceNe, Int.reduceAdd, Int.reduceSub, Int.reduceNeg, Int.toNat_natCast, Int.cast_ofNat_Int, Int.natCast_zero, Int.natCast_one, reduceCtorEq, reduceIte, Nat.lt_irrefl, and_self, not_false_eq_true, not_true_eq_false]
    rw [ck] at cc
    have hcl := hb.self.code
    have hpos := form_code ck
    have h4 : p.row[4]? = some (.int .i64 p.regs) := by rw [Fn.row_eq]; rfl
    have h5 : p.row[5]? = some (.isl (p.code.map Ins.row)) := by rw [Fn.row_eq]; rfl
    have h7 : p.row[7]? = some (.isl (p.consts.map Kst.row)) := by rw [Fn.row_eq]; rfl
    have h8 : p.row[8]? = some (.isl (p.protos.map Fn.row)) := by rw [Fn.row_eq]; rfl
    have h9 : p.row[9]? = some (.isl (p.ups.map Upv.row)) := by rw [Fn.row_eq]; rfl
    have l5 : (p.code.map Ins.row).length = p.code.length := List.length_map ..
    have l7 : (p.consts.map Kst.row).length = p.consts.length := List.length_map ..
    have l8 : (p.protos.map Fn.row).length = p.protos.length := List.length_map ..
    have l9 : (p.ups.map Upv.row).length = p.ups.length := List.length_map ..
    have z5 := eq_true (rowsz_of Ins.row 5 (fun _ => rfl) p.code)
    have hrs : ∀ k x, (p.spoil k x).row = p.row.take 5 ++ [.isl ((p.code.map Ins.row).set k x.row)] ++ p.row.drop 6 := fun k x => by rw [Fn.row_eq, Fn.row_eq p]; simp [Fn.spoil, List.map_set]
    generalize p.consts.map Kst.row = rconsts at *
    generalize p.protos.map Fn.row = rprotos at *
    generalize p.ups.map Upv.row = rups at *
    simp -implicitDefEqProofs only [go_sem, Nat.reduceEqDiff, Nat.reduceAdd, Nat.reduceSub, Nat.reduceMul, Nat.reduceLeDiff, Nat.reduceLT, Nat.reduceBEq, Int.reduceToNat, Int.reduceLE, Int.reduceLT, Int.reduceEq, Int.reduceNe, Int.reduceAdd, Int.reduceSub, Int.reduceNeg, Int.toNat_natCast, Int.cast_ofNat_Int, Int.natCast_zero, Int.natCast_one, reduceCtorEq, reduceIte, Nat.lt_irrefl, and_self, not_false_eq_true, not_true_eq_false, initSl, f1, f2]
    refine CallS.pureF lp (by simp -implicitDefEqProofs only [go_sem, Nat.reduceEqDiff, Nat.reduceAdd, Nat.reduceSub, Nat.reduceMul, Nat.reduceLeDiff, Nat.reduceLT, Nat.reduceBEq, Int.reduceToNat, Int.reduceLE, Int.reduceLT, Int.reduceEq, Int.reduceNe, Int.reduceAdd, Int.reduceSub, Int.reduceNeg, Int.toNat_natCast, Int.cast_ofNat_Int, Int.natCast_zero, Int.natCast_one, reduceCtorEq, reduceIte, Nat.lt_irrefl, and_self, not_false_eq_true, not_true_eq_false, sp]) ?_
    simp -implicitDefEqProofs only [go_sem, Nat.reduceEqDiff, Nat.reduceAdd, Nat.reduceSub, Nat.reduceMul, Nat.reduceLeDiff, Nat.reduceLT, Nat.reduceBEq, Int.reduceToNat, Int.reduceLE, Int.reduceLT, Int.reduceEq, Int.reduceNe, Int.reduceAdd, Int.reduceSub, Int.reduceNeg, Int.toNat_natCast, Int.cast_ofNat_Int, Int.natCast_zero, Int.natCast_one, reduceCtorEq, reduceIte, Nat.lt_irrefl, and_self, not_false_eq_true, not_true_eq_false, f1, f2]
    refine CallS.pureF cc (by simp -implicitDefEqProofs only [go_sem, Nat.reduceEqDiff, Nat.reduceAdd, Nat.reduceSub, Nat.reduceMul, Nat.reduceLeDiff, Nat.reduceLT, Nat.reduceBEq, Int.reduceToNat, Int.reduceLE, Int.reduceLT, Int.reduceEq, Int.reduceNe, Int.reduceAdd, Int.reduceSub, Int.reduceNeg, Int.toNat_natCast, Int.cast_ofNat_Int, Int.natCast_zero, Int.natCast_one, reduceCtorEq, reduceIte, Nat.lt_irrefl, and_self, not_false_eq_true, not_true_eq_false, sp]) ?_
    simp -implicitDefEqProofs only [go_sem, Nat.reduceEqDiff, Nat.reduceAdd, Nat.reduceSub, Nat.reduceMul, Nat.reduceLeDiff, Nat.reduceLT, Nat.reduceBEq, Int.reduceToNat, Int.reduceLE, Int.reduceLT, Int.reduceEq, Int.reduceNe, Int.reduceAdd, Int.reduceSub, Int.reduceNeg, Int.toNat_natCast, Int.cast_ofNat_Int, Int.natCast_zero, Int.natCast_one, reduceCtorEq, reduceIte, Nat.lt_irrefl, and_self, not_false_eq_true, not_true_eq_false, f1, f2, h4, h5, h7, h8, h9, l5, l7, l8, l9]
    refine Run.keep [6, 5, 2, 1] ?_
    have hw : 0 ≤ n1 ∧ n1 ≤ 65535 := by
      simp only [Lit.wf, Bool.and_eq_true, decide_eq_true_eq] at w1
      exact ⟨Int.le_trans (by decide) w1.1, Int.le_trans w1.2 (by decide)⟩
    have hwr : IntKind.i64.wrap n1 = n1 := by
      exact i64_wrap (by omega) (by omega)
    obtain ⟨j, hj⟩ : ∃ j : Nat, j = n1.toNat % p.code.length := ⟨_, rfl⟩
    have hjl : j < p.code.length := hj ▸ Nat.mod_lt _ hpos
    have hjm : n1.tmod (p.code.length : Int) = (j : Int) := by
      have h1 : ((n1.toNat : Nat) : Int) = n1 := Int.toNat_of_nonneg hw.1
      rw [hj, Int.ofNat_tmod, h1]
    have hq : ∀ x ∈ badIs p, ∃ z : Int, (z = 4 ∨ z = 6) ∧ Pure Tryd.prog 18 [.agg (p.spoil j x).row] (.int .i64 z) := fun x hx => ⟨_, chkE_spoil ck hjl hx, pcheck_pure (p.spoil j x) (hb.spoil j x) (by rw [Fn.depth_spoil]; exact hd)⟩
    have hBe : [[V.int .i64 2, .int .i64 0, .int .i64 p.consts.length, .int .i64 0, .int .i64 0], [.int .i64 22, .int .i64 0, .int .i64 p.protos.length, .int .i64 0, .int .i64 0], [.int .i64 1, .int .i64 0, .int .i64 p.regs, .int .i64 0, .int .i64 0], [.int .i64 14, .int .i64 0, .int .i64 p.code.length, .int .i64 0, .int .i64 0], [.int .i64 5, .int .i64 0, .int .i64 p.ups.length, .int .i64 0, .int .i64 0], [.int .i64 29, .int .i64 2, .int .i64 0, .int .i64 0, .int .i64 0], [.int .i64 0, .int .i64 0, .int .i64 0, .int .i64 0, .int .i64 0]] = (badIs p).map Ins.row := rfl
    rw [hBe]
    have lB : ((badIs p).map Ins.row).length = 7 := rfl
    have rB : ∀ (k : Nat) x, (badIs p)[k]? = some x → ((badIs p).map Ins.row)[k]? = some (Ins.row x) := fun k x hk => by rw [List.getElem?_map, hk]; rfl
    have hsx : ∀ k x, ((p.spoil k x).row).map (V.sub lost) = (p.spoil k x).row := fun k x => Fn.row_sub lost _
    have g5 := fun d h => frz_rows (d := d) (h := h) fun φ => map_sub_rows φ _ p.code fun x _ => Ins.row_sub φ x
    simp only [hrs] at hq hsx
    have zB : ∀ x ∈ badIs p, x.row.length = 5 := fun _ _ => rfl
    have bl : (badIs p).length = 7 := rfl
    generalize hBB : badIs p = BI at *
    generalize BI.map Ins.row = B at *
    generalize p.code.map Ins.row = rcode at *
    generalize p.row = pr at *
    have p5 : (pr.take 5).length = 5 := by rw [List.length_take]; omega
    have p6 : (pr.drop 6).length = 5 := by rw [List.length_drop]; omega
    have sp5 : (pr.take 5).map (V.sub lost) = pr.take 5 := by rw [List.map_take, sp]
    have sp6 : (pr.drop 6).map (V.sub lost) = pr.drop 6 := by rw [List.map_drop, sp]
    generalize hpa : pr.take 5 = pa at *
    generalize hpz : pr.drop 6 = pz at *
    have s1 : ∀ w, (pa ++ [w] ++ pz)[5]? = some w := fun w => by rw [List.append_assoc, List.getElem?_append_right (by omega), p5]; rfl
    have s3 : ∀ w, (pa ++ [w] ++ pz).length = 11 := fun w => by simp [p5, p6]
    have s4 : ∀ w, (pa ++ [w] ++ pz).take 11 = pa ++ [w] ++ pz := fun w => List.take_of_length_le (by rw [s3]; exact Nat.le_refl _)
    refine Run.rounds (fun (x : Nat × Nat) => ⟨[(6, .int .i64 x.1), (5, .sl (4 * 10000 + 38) 1 0 7), (2, .ptr (4 * 10000 + 2) 0 0 0), (1, .int .u16 n1)], [((4 * 10000 + 38), 1, .rows 5 B), ((4 * 10000 + 2), 0, .rows 11 [pr])], x.2⟩) (fun x => x.1 ≤ 7) (fun x => 7 - x.1) (0, 2) (by simp -implicitDefEqProofs only [go_sem, Nat.reduceEqDiff, Nat.reduceAdd, Nat.reduceSub, Nat.reduceMul, Nat.reduceLeDiff, Nat.reduceLT, Nat.reduceBEq, Int.reduceToNat, Int.reduceLE, Int.reduceLT, Int.reduceEq, Int.reduceNe, Int.reduceAdd, Int.reduceSub, Int.reduceNeg, Int.toNat_natCast, Int.cast_ofNat_Int, Int.natCast_zero, Int.natCast_one, reduceCtorEq, reduceIte, Nat.lt_irrefl, and_self, not_false_eq_true, not_true_eq_false]) (Nat.zero_le _) ?_
    rintro ⟨k, m⟩ hk ih
    simp only at hk ih ⊢
    refine Run.unf scriptinglaw33_ProtoSpoils_l0_eq (Run.go 100 ?_)
    by_cases hlt : k < 7
    · have q0 : ((k : Int) < 7) = True := eq_true (by omega)
      have q1 : ((0 : Int) ≤ (k : Int)) = True := eq_true (by omega)
      obtain ⟨x, hx⟩ : ∃ x, BI[k]? = some x := ⟨BI[k], by simp [bl, hlt]⟩
      have hxr := rB k x hx
      obtain ⟨z, hz, hc⟩ := hq x (List.mem_of_getElem? hx)
      have hsx := hsx j x
      have hzk : ((k + 1 : Nat) : Int) = (k : Int) + 1 := by omega
      have x1 : x.row.length = 5 := rfl
      have x2 : x.row.take 5 = x.row := rfl
      have x3 : (5 ≤ 5) = True := eq_true (Nat.le_refl 5)
      have j0 : ((0 : Int) ≤ (j : Int)) = True := eq_true (by omega)
      have j1 : ((j : Int) < (p.code.length : Int)) = True := eq_true (by omega)
      simp -implicitDefEqProofs only [go_sem, Nat.reduceEqDiff, Nat.reduceAdd, Nat.reduceSub, Nat.reduceMul, Nat.reduceLeDiff, Nat.reduceLT, Nat.reduceBEq, Int.reduceToNat, Int.reduceLE, Int.reduceLT, Int.reduceEq, Int.reduceNe, Int.reduceAdd, Int.reduceSub, Int.reduceNeg, Int.toNat_natCast, Int.cast_ofNat_Int, Int.natCast_zero, Int.natCast_one, reduceCtorEq, reduceIte, Nat.lt_irrefl, and_self, not_false_eq_true, not_true_eq_false, x1, x2, x3, j0, j1, hwr, Int.toNat_natCast, q0, q1, lB, hxr, hlt, f1, f2, h5, l5, hpa, hpz, s1, s3, s4, hjm, hjl, z5, Option.some.injEq, forall_eq']
      refine ⟨by omega, by omega, fun row hrow => ?_⟩
      have r5 : row.length = 5 := (of_eq_true z5) row (List.mem_of_getElem? hrow)
      rw [List.drop_eq_nil_of_le (Nat.le_of_eq r5), List.append_nil]
      refine ⟨by omega, ?_⟩
      have hset : p.code.length = (rcode.set j x.row).length := by rw [List.length_set, l5]
      have hrow := hsx
      refine CallS.pre (xs' := [.agg (pa ++ [.isl (rcode.set j x.row)] ++ pz)]) (h' := [((4 * 10000 + 38), 1, .rows 5 B), ((4 * 10000 + 2), 0, .rows 11 [pr])]) (n' := m + 1 + 1 + 1)
        (.freeze (b := (4 * 10000 + 46)) (st := m + 1 + 1) (sz := 5) (rs := rcode.set j x.row) List.mem_cons_self ⟨Frz.agg (FrzL.mid (Frz.all hset) pz pa), trivial⟩ (.at 2 rfl (by decide) (.of (.refl _)) (.at 3 rfl (by decide) (.of (.refl _)) trivial))) rfl ?_
      refine CallS.pureF hc (by simp -implicitDefEqProofs only [go_sem, Nat.reduceEqDiff, Nat.reduceAdd, Nat.reduceSub, Nat.reduceMul, Nat.reduceLeDiff, Nat.reduceLT, Nat.reduceBEq, Int.reduceToNat, Int.reduceLE, Int.reduceLT, Int.reduceEq, Int.reduceNe, Int.reduceAdd, Int.reduceSub, Int.reduceNeg, Int.toNat_natCast, Int.cast_ofNat_Int, Int.natCast_zero, Int.natCast_one, reduceCtorEq, reduceIte, Nat.lt_irrefl, and_self, not_false_eq_true, not_true_eq_false, hsx]) ?_
      rcases hz with rfl | rfl
      · simp -implicitDefEqProofs only [go_sem, Nat.reduceEqDiff, Nat.reduceAdd, Nat.reduceSub, Nat.reduceMul, Nat.reduceLeDiff, Nat.reduceLT, Nat.reduceBEq, Int.reduceToNat, Int.reduceLE, Int.reduceLT, Int.reduceEq, Int.reduceNe, Int.reduceAdd, Int.reduceSub, Int.reduceNeg, Int.toNat_natCast, Int.cast_ofNat_Int, Int.natCast_zero, Int.natCast_one, reduceCtorEq, reduceIte, Nat.lt_irrefl, and_self, not_false_eq_true, not_true_eq_false]
        refine ⟨by omega, ?_⟩
        exact ih _ (k + 1, m + 3) (by simp only; omega) (by simp only; omega) (by simp -implicitDefEqProofs only [go_sem, Nat.reduceEqDiff, Nat.reduceAdd, Nat.reduceSub, Nat.reduceMul, Nat.reduceLeDiff, Nat.reduceLT, Nat.reduceBEq, Int.reduceToNat, Int.reduceLE, Int.reduceLT, Int.reduceEq, Int.reduceNe, Int.reduceAdd, Int.reduceSub, Int.reduceNeg, Int.toNat_natCast, Int.cast_ofNat_Int, Int.natCast_zero, Int.natCast_one, reduceCtorEq, reduceIte, Nat.lt_irrefl, and_self, not_false_eq_true, not_true_eq_false, hzk])
      · simp -implicitDefEqProofs only [go_sem, Nat.reduceEqDiff, Nat.reduceAdd, Nat.reduceSub, Nat.reduceMul, Nat.reduceLeDiff, Nat.reduceLT, Nat.reduceBEq, Int.reduceToNat, Int.reduceLE, Int.reduceLT, Int.reduceEq, Int.reduceNe, Int.reduceAdd, Int.reduceSub, Int.reduceNeg, Int.toNat_natCast, Int.cast_ofNat_Int, Int.natCast_zero, Int.natCast_one, reduceCtorEq, reduceIte, Nat.lt_irrefl, and_self, not_false_eq_true, not_true_eq_false]
        refine ⟨by omega, ?_⟩
        exact ih _ (k + 1, m + 3) (by simp only; omega) (by simp only; omega) (by simp -implicitDefEqProofs only [go_sem, Nat.reduceEqDiff, Nat.reduceAdd, Nat.reduceSub, Nat.reduceMul, Nat.reduceLeDiff, Nat.reduceLT, Nat.reduceBEq, Int.reduceToNat, Int.reduceLE, Int.reduceLT, Int.reduceEq, Int.reduceNe, Int.reduceAdd, Int.reduceSub, Int.reduceNeg, Int.toNat_natCast, Int.cast_ofNat_Int, Int.natCast_zero, Int.natCast_one, reduceCtorEq, reduceIte, Nat.lt_irrefl, and_self, not_false_eq_true, not_true_eq_false, hzk])
    · have e : k = 7 := by omega
      subst e
      simp -implicitDefEqProofs only [go_sem, Nat.reduceEqDiff, Nat.reduceAdd, Nat.reduceSub, Nat.reduceMul, Nat.reduceLeDiff, Nat.reduceLT, Nat.reduceBEq, Int.reduceToNat, Int.reduceLE, Int.reduceLT, Int.reduceEq, Int.reduceNe, Int.reduceAdd, Int.reduceSub, Int.reduceNeg, Int.toNat_natCast, Int.cast_ofNat_Int, Int.natCast_zero, Int.natCast_one, reduceCtorEq, reduceIte, Nat.lt_irrefl, and_self, not_false_eq_true, not_true_eq_false, Int.lt_irrefl]
      refine CallS.pureF lives_pure (by simp -implicitDefEqProofs only [go_sem, Nat.reduceEqDiff, Nat.reduceAdd, Nat.reduceSub, Nat.reduceMul, Nat.reduceLeDiff, Nat.reduceLT, Nat.reduceBEq, Int.reduceToNat, Int.reduceLE, Int.reduceLT, Int.reduceEq, Int.reduceNe, Int.reduceAdd, Int.reduceSub, Int.reduceNeg, Int.toNat_natCast, Int.cast_ofNat_Int, Int.natCast_zero, Int.natCast_one, reduceCtorEq, reduceIte, Nat.lt_irrefl, and_self, not_false_eq_true, not_true_eq_false]) ?_
      simp -implicitDefEqProofs only [go_sem, Nat.reduceEqDiff, Nat.reduceAdd, Nat.reduceSub, Nat.reduceMul, Nat.reduceLeDiff, Nat.reduceLT, Nat.reduceBEq, Int.reduceToNat, Int.reduceLE, Int.reduceLT, Int.reduceEq, Int.reduceNe, Int.reduceAdd, Int.reduceSub, Int.reduceNeg, Int.toNat_natCast, Int.cast_ofNat_Int, Int.natCast_zero, Int.natCast_one, reduceCtorEq, reduceIte, Nat.lt_irrefl, and_self, not_false_eq_true, not_true_eq_false]
end Go.Proofs.YtmhbbaheponmoaaDoor
