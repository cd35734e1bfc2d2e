/-
  Registry: MaxStack references and names can be in use, and no more. No condition.
-/
import Derived.Test.YtnjgkcafmlmpcaaLaw3
import Derived.Test.YtnjgkcafmlmpcaaRep
set_option linter.unusedVariables false
set_option linter.unusedSimpArgs false
set_option maxRecDepth 100000
set_option maxHeartbeats 0
namespace Go.Proofs.Ytnjgkcafmlmpcaa
open Go.Abs
attribute [local irreducible] CallS Run
-- EV: RegH, nO, nM, nV, nF, nL, Val.v, Val.row, irow, Val.none

def rep (c : Nat) : List UInt8 := List.replicate c 110
/-- n references and n names with one value. -/
def full (v : Val) (c : Nat) : Reg := ⟨List.replicate c v, [], (List.range c).map fun i => (rep (i + 1), v)⟩

theorem rep_inj {a b : Nat} (h : rep a = rep b) : a = b := by
  have := congrArg List.length h
  simpa [rep] using this
theorem full_not (v : Val) (c j : Nat) (hj : c < j) : rep j ∉ (full v c).names.map (·.1) := by
  simp only [full, List.map_map, List.mem_map, List.mem_range, Function.comp]
  rintro ⟨i, hi, e⟩
  have := rep_inj e
  omega
theorem full_ok (v : Val) {c : Nat} (hc : c ≤ 1000) : (full v c).OK := by
  refine ⟨by simp [full]; exact hc, by simp [full], by simp [full], by simp [full]; exact hc, ?_⟩
  simp only [full, List.map_map]
  rw [List.Nodup, List.pairwise_map]
  refine List.Pairwise.imp ?_ (List.nodup_range (n := c))
  intro a b h e
  have := rep_inj e
  omega
theorem full_ref {v : Val} {c : Nat} (hc : c < 1000) (hv : vValid v.k v.p v.q v.s v.r = true) (hk : ¬ v.k = 0) :
    (full v c).ref v = (((c + 1 : Nat) : Int), 0, { full v c with vals := List.replicate (c + 1) v }) := by
  rw [Reg.ref4 (by rw [hv]; rfl) hk (by simp [full]; omega) rfl]
  simp [full, List.replicate_succ']
theorem putN_not {k : List UInt8} (v : Val) : ∀ {l : List (List UInt8 × Val)}, k ∉ l.map (·.1) → putN k v l = l ++ [(k, v)]
  | [], _ => rfl
  | e :: r, h => by
    simp only [List.map_cons, List.mem_cons, not_or] at h
    simp [putN, h.1, putN_not v h.2]
theorem full_put {v : Val} {c : Nat} (hc : c < 1000) (hv : vValid v.k v.p v.q v.s v.r = true) (hk : ¬ v.k = 0) :
    Reg.put { full v c with vals := List.replicate (c + 1) v } (rep (c + 1)) v = (0, full v (c + 1)) := by
  have hn := full_not v c (c + 1) (Nat.lt_succ_self c)
  rw [Reg.put, if_neg (by simp [rep]; omega), if_neg (by rw [Val.ok, hv]; simp), if_neg hk, if_neg (by simp [full]; omega)]
  rw [putN_not v hn]
  simp [full, List.range_succ]

theorem findN_all {k : List UInt8} {v : Val} : ∀ {l : List (List UInt8 × Val)}, k ∈ l.map (·.1) → (∀ e ∈ l, e.2 = v) → findN k l = some v
  | [], h, _ => by simp at h
  | e :: r, h, ha => by
    simp only [findN]
    by_cases hk : k = e.1
    · rw [if_pos hk, ha e List.mem_cons_self]
    · rw [if_neg hk]
      simp only [List.map_cons, List.mem_cons, hk, false_or] at h
      exact findN_all h fun x hx => ha x (List.mem_cons_of_mem _ hx)
theorem putN_same {k : List UInt8} {v : Val} : ∀ {l : List (List UInt8 × Val)}, findN k l = some v → putN k v l = l
  | [], h => by simp [findN] at h
  | e :: r, h => by
    simp only [findN] at h
    simp only [putN]
    by_cases hk : k = e.1
    · rw [if_pos hk] at h ⊢
      injection h with h
      rw [hk, ← h]
    · rw [if_neg hk] at h ⊢
      rw [putN_same h]
theorem full_find (v : Val) {c j : Nat} (h1 : 1 ≤ j) (h2 : j ≤ c) : findN (rep j) (full v c).names = some v := by
  refine findN_all ?_ ?_
  · simp only [full, List.map_map, List.mem_map, List.mem_range, Function.comp]
    exact ⟨j - 1, by omega, by rw [show j - 1 + 1 = j by omega]⟩
  · intro e he
    simp only [full, List.mem_map] at he
    obtain ⟨i, _, rfl⟩ := he
    rfl
def oth : List UInt8 := [111, 116, 104, 101, 114]
theorem full_oth (v : Val) (c : Nat) : oth ∉ (full v c).names.map (·.1) := by
  simp only [full, List.map_map, List.mem_map, List.mem_range, Function.comp]
  rintro ⟨i, hi, e⟩
  simp [rep, oth, List.replicate_succ] at e

theorem remN_len {k : List UInt8} {v : Val} : ∀ {l : List (List UInt8 × Val)}, findN k l = some v → (remN k l).length + 1 = l.length
  | [], h => by simp [findN] at h
  | e :: r, h => by
    simp only [findN] at h
    simp only [remN]
    by_cases hk : k = e.1
    · rw [if_pos hk]; rfl
    · rw [if_neg hk] at h ⊢
      simp only [List.length_cons, remN_len h]

theorem full_pure (v : Val) (x : Int) (hx0 : 0 ≤ x) (hx1 : x ≤ 65535) : Abs.Pure Try.prog 6 [v.v, .int .u16 x] (.bool true) := by
  refine Pure.of 0 (CallS.enter scriptinglaw18_RegistryFull_ok (Nat.le_of_ble_eq_true rfl) (Run.go 100 ?_))
  simp -implicitDefEqProofs only [go_sem, Nat.reduceEqDiff, Nat.reduceAdd, Nat.reduceSub, Nat.reduceMul, Nat.reduceLeDiff, Nat.reduceLT, Nat.reduceBEq, Int.reduceToNat, Int.reduceLE, Int.reduceLT, Int.reduceEq, Int.reduceNe, Int.reduceAdd, Int.reduceSub, Int.reduceNeg, Int.toNat_natCast, reduceCtorEq, reduceIte, Nat.lt_irrefl, and_self, not_false_eq_true, not_true_eq_false, RegH, nO, nM, nV, nF, nL, Val.v, Val.row, irow, Val.none, initSl]
  refine CallS.at [] [0] (new_c _) rfl rfl ?_
  rintro r h' n1 hn1 ⟨so, sm, sv, sf, rfl, rfl⟩
  simp -implicitDefEqProofs only [go_sem, Nat.reduceEqDiff, Nat.reduceAdd, Nat.reduceSub, Nat.reduceMul, Nat.reduceLeDiff, Nat.reduceLT, Nat.reduceBEq, Int.reduceToNat, Int.reduceLE, Int.reduceLT, Int.reduceEq, Int.reduceNe, Int.reduceAdd, Int.reduceSub, Int.reduceNeg, Int.toNat_natCast, reduceCtorEq, reduceIte, Nat.lt_irrefl, and_self, not_false_eq_true, not_true_eq_false, RegH, nO, nM, nV, nF, nL, Val.v, Val.row, irow, Val.none]
  refine CallS.pureF (rValid_pure _ _ _ _ _) (by simp -implicitDefEqProofs only [go_sem, Nat.reduceEqDiff, Nat.reduceAdd, Nat.reduceSub, Nat.reduceMul, Nat.reduceLeDiff, Nat.reduceLT, Nat.reduceBEq, Int.reduceToNat, Int.reduceLE, Int.reduceLT, Int.reduceEq, Int.reduceNe, Int.reduceAdd, Int.reduceSub, Int.reduceNeg, Int.toNat_natCast, reduceCtorEq, reduceIte, Nat.lt_irrefl, and_self, not_false_eq_true, not_true_eq_false, RegH, nO, nM, nV, nF, nL, Val.v, Val.row, irow, Val.none]) ?_
  cases hvv : vValid v.k v.p v.q v.s v.r with
  | false =>
    simp -implicitDefEqProofs only [go_sem, Nat.reduceEqDiff, Nat.reduceAdd, Nat.reduceSub, Nat.reduceMul, Nat.reduceLeDiff, Nat.reduceLT, Nat.reduceBEq, Int.reduceToNat, Int.reduceLE, Int.reduceLT, Int.reduceEq, Int.reduceNe, Int.reduceAdd, Int.reduceSub, Int.reduceNeg, Int.toNat_natCast, reduceCtorEq, reduceIte, Nat.lt_irrefl, and_self, not_false_eq_true, not_true_eq_false, RegH, nO, nM, nV, nF, nL, Val.v, Val.row, irow, Val.none]
    refine CallS.pureF lives_pure (by simp -implicitDefEqProofs only [go_sem, Nat.reduceEqDiff, Nat.reduceAdd, Nat.reduceSub, Nat.reduceMul, Nat.reduceLeDiff, Nat.reduceLT, Nat.reduceBEq, Int.reduceToNat, Int.reduceLE, Int.reduceLT, Int.reduceEq, Int.reduceNe, Int.reduceAdd, Int.reduceSub, Int.reduceNeg, Int.toNat_natCast, reduceCtorEq, reduceIte, Nat.lt_irrefl, and_self, not_false_eq_true, not_true_eq_false, RegH, nO, nM, nV, nF, nL, Val.v, Val.row, irow, Val.none]) ?_
    simp -implicitDefEqProofs only [go_sem, Nat.reduceEqDiff, Nat.reduceAdd, Nat.reduceSub, Nat.reduceMul, Nat.reduceLeDiff, Nat.reduceLT, Nat.reduceBEq, Int.reduceToNat, Int.reduceLE, Int.reduceLT, Int.reduceEq, Int.reduceNe, Int.reduceAdd, Int.reduceSub, Int.reduceNeg, Int.toNat_natCast, reduceCtorEq, reduceIte, Nat.lt_irrefl, and_self, not_false_eq_true, not_true_eq_false, RegH, nO, nM, nV, nF, nL, Val.v, Val.row, irow, Val.none]
  | true =>
  by_cases hk : v.k = 0
  · simp -implicitDefEqProofs only [go_sem, Nat.reduceEqDiff, Nat.reduceAdd, Nat.reduceSub, Nat.reduceMul, Nat.reduceLeDiff, Nat.reduceLT, Nat.reduceBEq, Int.reduceToNat, Int.reduceLE, Int.reduceLT, Int.reduceEq, Int.reduceNe, Int.reduceAdd, Int.reduceSub, Int.reduceNeg, Int.toNat_natCast, reduceCtorEq, reduceIte, Nat.lt_irrefl, and_self, not_false_eq_true, not_true_eq_false, RegH, nO, nM, nV, nF, nL, Val.v, Val.row, irow, Val.none, hk]
    refine CallS.pureF lives_pure (by simp -implicitDefEqProofs only [go_sem, Nat.reduceEqDiff, Nat.reduceAdd, Nat.reduceSub, Nat.reduceMul, Nat.reduceLeDiff, Nat.reduceLT, Nat.reduceBEq, Int.reduceToNat, Int.reduceLE, Int.reduceLT, Int.reduceEq, Int.reduceNe, Int.reduceAdd, Int.reduceSub, Int.reduceNeg, Int.toNat_natCast, reduceCtorEq, reduceIte, Nat.lt_irrefl, and_self, not_false_eq_true, not_true_eq_false, RegH, nO, nM, nV, nF, nL, Val.v, Val.row, irow, Val.none]) ?_
    simp -implicitDefEqProofs only [go_sem, Nat.reduceEqDiff, Nat.reduceAdd, Nat.reduceSub, Nat.reduceMul, Nat.reduceLeDiff, Nat.reduceLT, Nat.reduceBEq, Int.reduceToNat, Int.reduceLE, Int.reduceLT, Int.reduceEq, Int.reduceNe, Int.reduceAdd, Int.reduceSub, Int.reduceNeg, Int.toNat_natCast, reduceCtorEq, reduceIte, Nat.lt_irrefl, and_self, not_false_eq_true, not_true_eq_false, RegH, nO, nM, nV, nF, nL, Val.v, Val.row, irow, Val.none]
  simp -implicitDefEqProofs only [go_sem, Nat.reduceEqDiff, Nat.reduceAdd, Nat.reduceSub, Nat.reduceMul, Nat.reduceLeDiff, Nat.reduceLT, Nat.reduceBEq, Int.reduceToNat, Int.reduceLE, Int.reduceLT, Int.reduceEq, Int.reduceNe, Int.reduceAdd, Int.reduceSub, Int.reduceNeg, Int.toNat_natCast, reduceCtorEq, reduceIte, Nat.lt_irrefl, and_self, not_false_eq_true, not_true_eq_false, RegH, nO, nM, nV, nF, nL, Val.v, Val.row, irow, Val.none, hk]
  refine Run.rounds (fun (y : Nat × Nat × Nat × Nat) => ⟨[(6, .int .i64 ((y.1 + 1 : Nat) : Int)), (5, .ptr nO so 0 0), (2, .ptr 60002 0 0 0), (1, .int .u16 x)],
      RegH so sm y.2.1 y.2.2.1 (full v y.1) ++ [(60002, 0, .rows 5 [v.row])], y.2.2.2⟩)
    (fun y => y.1 ≤ 1000) (fun y => 1000 - y.1) (0, sv, sf, n1) (by simp -implicitDefEqProofs only [go_sem, Nat.reduceEqDiff, Nat.reduceAdd, Nat.reduceSub, Nat.reduceMul, Nat.reduceLeDiff, Nat.reduceLT, Nat.reduceBEq, Int.reduceToNat, Int.reduceLE, Int.reduceLT, Int.reduceEq, Int.reduceNe, Int.reduceAdd, Int.reduceSub, Int.reduceNeg, Int.toNat_natCast, reduceCtorEq, reduceIte, Nat.lt_irrefl, and_self, not_false_eq_true, not_true_eq_false, RegH, nO, nM, nV, nF, nL, Val.v, Val.row, irow, Val.none, full, List.replicate_zero, List.range_zero, List.map_nil]; simp) (Nat.zero_le _) ?_
  rintro ⟨c, sv, sf, n⟩ hc ih
  dsimp only at hc ih ⊢
  refine Run.unf scriptinglaw18_RegistryFull_l0_eq (Run.go 100 ?_)
  simp -implicitDefEqProofs only [go_sem, Nat.reduceEqDiff, Nat.reduceAdd, Nat.reduceSub, Nat.reduceMul, Nat.reduceLeDiff, Nat.reduceLT, Nat.reduceBEq, Int.reduceToNat, Int.reduceLE, Int.reduceLT, Int.reduceEq, Int.reduceNe, Int.reduceAdd, Int.reduceSub, Int.reduceNeg, Int.toNat_natCast, reduceCtorEq, reduceIte, Nat.lt_irrefl, and_self, not_false_eq_true, not_true_eq_false, RegH, nO, nM, nV, nF, nL, Val.v, Val.row, irow, Val.none]
  refine ⟨fun c1 => ?_, fun c1 => ?_⟩
  · refine CallS.at [0, 1, 2, 3] [4] (ref_c (full v c) so sm sv sf _ v (full_ok v hc)) rfl rfl ?_
    rintro r h' n2 hn2 ⟨sv1, sf1, rfl, rfl⟩
    have hc' : c < 1000 := by omega
    have hok := (full_ok v hc).ref v
    rw [full_ref hc' hvv hk] at hok ⊢
    simp -implicitDefEqProofs only [go_sem, Nat.reduceEqDiff, Nat.reduceAdd, Nat.reduceSub, Nat.reduceMul, Nat.reduceLeDiff, Nat.reduceLT, Nat.reduceBEq, Int.reduceToNat, Int.reduceLE, Int.reduceLT, Int.reduceEq, Int.reduceNe, Int.reduceAdd, Int.reduceSub, Int.reduceNeg, Int.toNat_natCast, reduceCtorEq, reduceIte, Nat.lt_irrefl, and_self, not_false_eq_true, not_true_eq_false, RegH, nO, nM, nV, nF, nL, Val.v, Val.row, irow, Val.none]
    have hp := full_put hc' hvv hk
    refine ⟨?_, ?_⟩
    all_goals
      refine CallS.pureF (repeat_pure (c + 1) (by omega)) (by simp -implicitDefEqProofs only [go_sem, Nat.reduceEqDiff, Nat.reduceAdd, Nat.reduceSub, Nat.reduceMul, Nat.reduceLeDiff, Nat.reduceLT, Nat.reduceBEq, Int.reduceToNat, Int.reduceLE, Int.reduceLT, Int.reduceEq, Int.reduceNe, Int.reduceAdd, Int.reduceSub, Int.reduceNeg, Int.toNat_natCast, reduceCtorEq, reduceIte, Nat.lt_irrefl, and_self, not_false_eq_true, not_true_eq_false, RegH, nO, nM, nV, nF, nL, Val.v, Val.row, irow, Val.none]) ?_
      simp -implicitDefEqProofs only [go_sem, Nat.reduceEqDiff, Nat.reduceAdd, Nat.reduceSub, Nat.reduceMul, Nat.reduceLeDiff, Nat.reduceLT, Nat.reduceBEq, Int.reduceToNat, Int.reduceLE, Int.reduceLT, Int.reduceEq, Int.reduceNe, Int.reduceAdd, Int.reduceSub, Int.reduceNeg, Int.toNat_natCast, reduceCtorEq, reduceIte, Nat.lt_irrefl, and_self, not_false_eq_true, not_true_eq_false, RegH, nO, nM, nV, nF, nL, Val.v, Val.row, irow, Val.none]
      refine CallS.at [0, 1, 2, 3] [4] (put_c { full v c with vals := List.replicate (c + 1) v } so sm sv1 sf1 _ (rep (c + 1)) v hok) (by simp -implicitDefEqProofs only [go_sem, Nat.reduceEqDiff, Nat.reduceAdd, Nat.reduceSub, Nat.reduceMul, Nat.reduceLeDiff, Nat.reduceLT, Nat.reduceBEq, Int.reduceToNat, Int.reduceLE, Int.reduceLT, Int.reduceEq, Int.reduceNe, Int.reduceAdd, Int.reduceSub, Int.reduceNeg, Int.toNat_natCast, reduceCtorEq, reduceIte, Nat.lt_irrefl, and_self, not_false_eq_true, not_true_eq_false, RegH, nO, nM, nV, nF, nL, Val.v, Val.row, irow, Val.none]) rfl ?_
      rintro r h' n3 hn3 ⟨rfl, rfl⟩
      rw [hp]
      simp -implicitDefEqProofs only [go_sem, Nat.reduceEqDiff, Nat.reduceAdd, Nat.reduceSub, Nat.reduceMul, Nat.reduceLeDiff, Nat.reduceLT, Nat.reduceBEq, Int.reduceToNat, Int.reduceLE, Int.reduceLT, Int.reduceEq, Int.reduceNe, Int.reduceAdd, Int.reduceSub, Int.reduceNeg, Int.toNat_natCast, reduceCtorEq, reduceIte, Nat.lt_irrefl, and_self, not_false_eq_true, not_true_eq_false, RegH, nO, nM, nV, nF, nL, Val.v, Val.row, irow, Val.none]
      exact ⟨by omega, ih _ (c + 1, sv1, sf1, n3) (by dsimp only; omega) (by dsimp only; omega) (by simp -implicitDefEqProofs only [go_sem, Nat.reduceEqDiff, Nat.reduceAdd, Nat.reduceSub, Nat.reduceMul, Nat.reduceLeDiff, Nat.reduceLT, Nat.reduceBEq, Int.reduceToNat, Int.reduceLE, Int.reduceLT, Int.reduceEq, Int.reduceNe, Int.reduceAdd, Int.reduceSub, Int.reduceNeg, Int.toNat_natCast, reduceCtorEq, reduceIte, Nat.lt_irrefl, and_self, not_false_eq_true, not_true_eq_false, RegH, nO, nM, nV, nF, nL, Val.v, Val.row, irow, Val.none, full]; simp)⟩
  · have hc' : c = 1000 := by omega
    subst hc'
    clear ih
    have hok := full_ok v hc
    have hr : (full v 1000).ref v = (0, 17, full v 1000) := Reg.ref3 (by rw [hvv]; rfl) hk (by simp [full])
    refine CallS.at [0, 1, 2, 3] [4] (ref_c (full v 1000) so sm sv sf _ v hok) rfl rfl ?_
    rintro r h' n2 hn2 ⟨sv1, sf1, rfl, rfl⟩
    rw [hr]
    simp -implicitDefEqProofs only [go_sem, Nat.reduceEqDiff, Nat.reduceAdd, Nat.reduceSub, Nat.reduceMul, Nat.reduceLeDiff, Nat.reduceLT, Nat.reduceBEq, Int.reduceToNat, Int.reduceLE, Int.reduceLT, Int.reduceEq, Int.reduceNe, Int.reduceAdd, Int.reduceSub, Int.reduceNeg, Int.toNat_natCast, reduceCtorEq, reduceIte, Nat.lt_irrefl, and_self, not_false_eq_true, not_true_eq_false, RegH, nO, nM, nV, nF, nL, Val.v, Val.row, irow, Val.none]
    have ho : findN oth (full v 1000).names = none := findN_not (full_oth v 1000)
    have hnl : (full v 1000).names.length = 1000 := by simp [full]
    have hvl : (full v 1000).vals.length = 1000 := by simp [full]
    have p1 : (full v 1000).put oth v = (17, full v 1000) := by
      rw [Reg.put, if_neg (by decide), if_neg (by rw [Val.ok, hvv]; simp), if_neg hk, if_pos ⟨ho, by omega⟩]
    have f1 : findN [110] (full v 1000).names = some v := full_find v (j := 1) (by omega) (by omega)
    have p2 : (full v 1000).put [110] v = (0, full v 1000) := by
      rw [Reg.put, if_neg (by decide), if_neg (by rw [Val.ok, hvv]; simp), if_neg hk, if_neg (by rw [f1]; simp), putN_same f1]
    have l1 : (full v 1000).len = 2000 := by simp [Reg.len, hnl, hvl]; simp [full]
    refine CallS.at [0, 1, 2, 3] [4] (put_c (full v 1000) so sm sv1 sf1 _ oth v hok) rfl rfl ?_
    rintro r h' n3 hn3 ⟨rfl, rfl⟩
    rw [p1]
    simp -implicitDefEqProofs only [go_sem, Nat.reduceEqDiff, Nat.reduceAdd, Nat.reduceSub, Nat.reduceMul, Nat.reduceLeDiff, Nat.reduceLT, Nat.reduceBEq, Int.reduceToNat, Int.reduceLE, Int.reduceLT, Int.reduceEq, Int.reduceNe, Int.reduceAdd, Int.reduceSub, Int.reduceNeg, Int.toNat_natCast, reduceCtorEq, reduceIte, Nat.lt_irrefl, and_self, not_false_eq_true, not_true_eq_false, RegH, nO, nM, nV, nF, nL, Val.v, Val.row, irow, Val.none]
    have hw : IntKind.i64.wrap x = x := by simp [IntKind.wrap, IntKind.bits, IntKind.signed]; omega
    rw [hw]
    have z1 : 1 ≤ 1 + x.tmod 1000 := by have := Int.tmod_nonneg 1000 hx0; omega
    have z2 : 1 + x.tmod 1000 ≤ 1000 := by have := Int.tmod_lt_of_pos x (show (0 : Int) < 1000 by omega); omega
    generalize 1 + x.tmod 1000 = z at *
    refine ⟨by omega, ?_⟩
    have hg : (full v 1000).vals[(z - 1).toNat]? = some v := by show (List.replicate 1000 v)[(z - 1).toNat]? = some v; rw [List.getElem?_replicate, if_pos (by omega)]
    have hu : (full v 1000).used z = true := by
      simp only [Reg.used, List.getD_eq_getElem?_getD, hg, Option.getD_some]
      simp [z1, z2, hvl, hk]
    have p3 : (full v 1000).unref z = (0, { full v 1000 with vals := (full v 1000).vals.set (z - 1).toNat Val.none, free := [z] }) := by
      rw [Reg.unref, if_neg (by omega), hu]; rfl
    have hok2 := hok.unref z
    rw [p3] at hok2
    refine CallS.at [0, 1, 2, 3] [4] (put_c (full v 1000) so sm sv1 sf1 _ [110] v hok) rfl rfl ?_
    rintro r h' n4 hn4 ⟨rfl, rfl⟩
    rw [p2]
    simp -implicitDefEqProofs only [go_sem, Nat.reduceEqDiff, Nat.reduceAdd, Nat.reduceSub, Nat.reduceMul, Nat.reduceLeDiff, Nat.reduceLT, Nat.reduceBEq, Int.reduceToNat, Int.reduceLE, Int.reduceLT, Int.reduceEq, Int.reduceNe, Int.reduceAdd, Int.reduceSub, Int.reduceNeg, Int.toNat_natCast, reduceCtorEq, reduceIte, Nat.lt_irrefl, and_self, not_false_eq_true, not_true_eq_false, RegH, nO, nM, nV, nF, nL, Val.v, Val.row, irow, Val.none]
    refine CallS.at [0, 1, 2, 3] [4] (len_c (full v 1000) so sm sv1 sf1 _ hok) rfl rfl ?_
    rintro r h' n5 hn5 ⟨rfl, rfl⟩
    rw [l1]
    simp -implicitDefEqProofs only [go_sem, Nat.reduceEqDiff, Nat.reduceAdd, Nat.reduceSub, Nat.reduceMul, Nat.reduceLeDiff, Nat.reduceLT, Nat.reduceBEq, Int.reduceToNat, Int.reduceLE, Int.reduceLT, Int.reduceEq, Int.reduceNe, Int.reduceAdd, Int.reduceSub, Int.reduceNeg, Int.toNat_natCast, reduceCtorEq, reduceIte, Nat.lt_irrefl, and_self, not_false_eq_true, not_true_eq_false, RegH, nO, nM, nV, nF, nL, Val.v, Val.row, irow, Val.none]
    refine CallS.at [0, 1, 2, 3] [4] (unref_c (full v 1000) so sm sv1 sf1 _ z hok) rfl rfl ?_
    rintro r h' n6 hn6 ⟨sv2, sf2, rfl, rfl⟩
    rw [p3]
    generalize hR2 : ({ full v 1000 with vals := (full v 1000).vals.set (z - 1).toNat Val.none, free := [z] } : Reg) = R2 at *
    simp -implicitDefEqProofs only [go_sem, Nat.reduceEqDiff, Nat.reduceAdd, Nat.reduceSub, Nat.reduceMul, Nat.reduceLeDiff, Nat.reduceLT, Nat.reduceBEq, Int.reduceToNat, Int.reduceLE, Int.reduceLT, Int.reduceEq, Int.reduceNe, Int.reduceAdd, Int.reduceSub, Int.reduceNeg, Int.toNat_natCast, reduceCtorEq, reduceIte, Nat.lt_irrefl, and_self, not_false_eq_true, not_true_eq_false, RegH, nO, nM, nV, nF, nL, Val.v, Val.row, irow, Val.none]
    have hok3 := hok2.put [110, 110] Val.none
    have p4 : R2.put [110, 110] Val.none = (0, { R2 with names := remN [110, 110] R2.names }) := by
      rw [Reg.put, if_neg (by decide), if_neg (by decide), if_pos (show Val.none.k = 0 from rfl)]
    rw [p4] at hok3
    refine CallS.at [0, 1, 2, 3] [4] (put_c R2 so sm sv2 sf2 _ [110, 110] Val.none hok2) rfl rfl ?_
    rintro r h' n7 hn7 ⟨rfl, rfl⟩
    rw [p4]
    generalize hR3 : ({ R2 with names := remN [110, 110] R2.names } : Reg) = R3 at *
    simp -implicitDefEqProofs only [go_sem, Nat.reduceEqDiff, Nat.reduceAdd, Nat.reduceSub, Nat.reduceMul, Nat.reduceLeDiff, Nat.reduceLT, Nat.reduceBEq, Int.reduceToNat, Int.reduceLE, Int.reduceLT, Int.reduceEq, Int.reduceNe, Int.reduceAdd, Int.reduceSub, Int.reduceNeg, Int.toNat_natCast, reduceCtorEq, reduceIte, Nat.lt_irrefl, and_self, not_false_eq_true, not_true_eq_false, RegH, nO, nM, nV, nF, nL, Val.v, Val.row, irow, Val.none]
    have q1 : R3.free = [z] := by rw [← hR3, ← hR2]
    have q2 : R3.vals.length = 1000 := by rw [← hR3, ← hR2]; simp [full]
    have q3 : R3.names = remN [110, 110] (full v 1000).names := by rw [← hR3, ← hR2]
    have q4 : R3.names.length + 1 = 1000 := by
      have f2 : findN [110, 110] (full v 1000).names = some v := full_find v (j := 2) (by omega) (by omega)
      have := remN_len f2
      rw [q3]; omega
    have q5 : findN oth R3.names = none := findN_not fun hm => by
      rw [q3] at hm
      exact full_oth v 1000 (((remN_sub [110, 110] (full v 1000).names).map (·.1)).subset hm)
    have p5 : R3.ref v = (z, 0, { R3 with vals := R3.vals.set (z - 1).toNat v, free := R3.free.dropLast }) :=
      Reg.ref5 (by rw [hvv]; rfl) hk (by have := congrArg List.length q1; simp at this; omega) (by rw [q1]; rfl)
    have hok4 := hok3.ref v
    rw [p5] at hok4
    refine CallS.at [0, 1, 2, 3] [4] (ref_c R3 so sm sv2 sf2 _ v hok3) rfl rfl ?_
    rintro r h' n8 hn8 ⟨sv3, sf3, rfl, rfl⟩
    rw [p5]
    have p6 : (Reg.put { R3 with vals := R3.vals.set (z - 1).toNat v, free := R3.free.dropLast } oth v).1 = 0 := by
      rw [Reg.put, if_neg (by decide), if_neg (by rw [Val.ok, hvv]; simp), if_neg hk, if_neg (by simp only []; omega)]
    generalize ({ R3 with vals := R3.vals.set (z - 1).toNat v, free := R3.free.dropLast } : Reg) = R4 at *
    simp -implicitDefEqProofs only [go_sem, Nat.reduceEqDiff, Nat.reduceAdd, Nat.reduceSub, Nat.reduceMul, Nat.reduceLeDiff, Nat.reduceLT, Nat.reduceBEq, Int.reduceToNat, Int.reduceLE, Int.reduceLT, Int.reduceEq, Int.reduceNe, Int.reduceAdd, Int.reduceSub, Int.reduceNeg, Int.toNat_natCast, reduceCtorEq, reduceIte, Nat.lt_irrefl, and_self, not_false_eq_true, not_true_eq_false, RegH, nO, nM, nV, nF, nL, Val.v, Val.row, irow, Val.none]
    refine CallS.at [0, 1, 2, 3] [4] (put_c R4 so sm sv3 sf3 _ oth v hok4) rfl rfl ?_
    rintro r h' n9 hn9 ⟨rfl, rfl⟩
    simp -implicitDefEqProofs only [go_sem, Nat.reduceEqDiff, Nat.reduceAdd, Nat.reduceSub, Nat.reduceMul, Nat.reduceLeDiff, Nat.reduceLT, Nat.reduceBEq, Int.reduceToNat, Int.reduceLE, Int.reduceLT, Int.reduceEq, Int.reduceNe, Int.reduceAdd, Int.reduceSub, Int.reduceNeg, Int.toNat_natCast, reduceCtorEq, reduceIte, Nat.lt_irrefl, and_self, not_false_eq_true, not_true_eq_false, RegH, nO, nM, nV, nF, nL, Val.v, Val.row, irow, Val.none, p6]
    refine CallS.pureF lives_pure (by simp -implicitDefEqProofs only [go_sem, Nat.reduceEqDiff, Nat.reduceAdd, Nat.reduceSub, Nat.reduceMul, Nat.reduceLeDiff, Nat.reduceLT, Nat.reduceBEq, Int.reduceToNat, Int.reduceLE, Int.reduceLT, Int.reduceEq, Int.reduceNe, Int.reduceAdd, Int.reduceSub, Int.reduceNeg, Int.toNat_natCast, reduceCtorEq, reduceIte, Nat.lt_irrefl, and_self, not_false_eq_true, not_true_eq_false, RegH, nO, nM, nV, nF, nL, Val.v, Val.row, irow, Val.none]) ?_
    simp -implicitDefEqProofs only [go_sem, Nat.reduceEqDiff, Nat.reduceAdd, Nat.reduceSub, Nat.reduceMul, Nat.reduceLeDiff, Nat.reduceLT, Nat.reduceBEq, Int.reduceToNat, Int.reduceLE, Int.reduceLT, Int.reduceEq, Int.reduceNe, Int.reduceAdd, Int.reduceSub, Int.reduceNeg, Int.toNat_natCast, reduceCtorEq, reduceIte, Nat.lt_irrefl, and_self, not_false_eq_true, not_true_eq_false, RegH, nO, nM, nV, nF, nL, Val.v, Val.row, irow, Val.none]

theorem registryFull_args (vs : List V) (hv : Typed Try.prog 29 vs) (x : Int) (hx : (Lit.int .u16 x).wf = true) :
    Abs.Pure Try.prog 6 [.agg vs, .int .u16 x] (.bool true) := by
  obtain ⟨v, rfl⟩ := val_of hv
  simp only [Lit.wf, Bool.and_eq_true, decide_eq_true_eq] at hx
  exact full_pure v x hx.1 hx.2

end Go.Proofs.Ytnjgkcafmlmpcaa
