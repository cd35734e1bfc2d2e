/-
  The chapter's examples of flow hold. No condition.
-/
import Derived.Test.YtdnpnbenahpllaaDoorFlowA1
import Derived.Test.YtdnpnbenahpllaaDoorInts35
import Derived.Test.YtdnpnbenahpllaaDoorWk
set_option linter.unusedVariables false
set_option linter.unusedSimpArgs false
set_option maxRecDepth 1000000
set_option maxHeartbeats 0
namespace Go.Proofs.YtdnpnbenahpllaaDoor
open Go.Abs
attribute [local irreducible] CallS Run
-- EV: eR, i5, zrw
theorem FrzB.row1 {st : Nat} {fs : List (List V)} {sz : Nat} {r r2 : List V} (hr : FrzL st fs r r2) : FrzB st fs (.rows sz [r]) (.rows sz [r2]) :=
  FrzB.rows (Nat.le_refl _) fun i r' hi => by
    cases i with
    | zero => simp at hi; subst hi; exact ⟨r, rfl, hr⟩
    | succ i => simp at hi
theorem FrzB.proto {st b n : Nat} {R : List (List V)} {regs : Int} (hn : n = R.length) : FrzB st R (.rows 11 [[.str [], .int .i64 0, .int .i64 0, .bool false, .int .i64 regs, .sl b st 0 n, .nils, .nils, .nils, .nils, .nils]]) (.rows 11 [eR regs R]) :=
  FrzB.row1 ⟨.of (.refl _), .of (.refl _), .of (.refl _), .of (.refl _), .of (.refl _), Frz.all hn, .of .nilI, .of .nilI, .of .nilI, .of .nilI, .of .nilI, trivial⟩
theorem i12 : Pure Tryd.prog 11 [.isl [zrw 1, zrw 2], .isl [zrw 1, zrw 2]] (.bool true) := ints_pure [1, 2] [1, 2] (by decide)
theorem i1 (z : Int) : Pure Tryd.prog 11 [.isl [zrw z], .isl [zrw z]] (.bool true) := by
  have := ints_pure [z] [z] (by simp)
  rwa [show decide ([z] = [z]) = true by simp] at this

theorem awake_pure : Pure Tryd.prog 7 [] (.bool true) := by
  refine Pure.of 0 (CallS.enter scriptinglaw35_awake_ok (Nat.le_of_ble_eq_true rfl) ?_)
  refine Run.go 4 ?_
  simp -implicitDefEqProofs only [go_sem, eR, i5, zrw, initSl]
  refine Run.wk (.freeze (b := (7 * 10000 + 9)) (st := 0) (sz := 5) (rs := [i5 15 0 2 1 0, i5 3 0 0 0 0, i5 18 0 1 0 0]) (sl' := [(1, .ptr (7 * 10000 + 1) 1 0 0)]) (h' := [((7 * 10000 + 1), 1, .rows 11 [eR 1 [i5 15 0 2 1 0, i5 3 0 0 0 0, i5 18 0 1 0 0]])]) (List.mem_cons_of_mem _ List.mem_cons_self) ⟨.of (.refl _), trivial⟩ ⟨⟨_, List.mem_cons_self, by decide, FrzB.proto rfl⟩, trivial⟩) ?_
  refine Run.go 2 ?_
  simp -implicitDefEqProofs only [go_sem, eR, i5, zrw]
  refine CallS.pureF xBlocks (by simp -implicitDefEqProofs only [go_sem, eR, i5, zrw]) ?_
  simp -implicitDefEqProofs only [go_sem, eR, i5, zrw]
  refine Run.go 2 ?_
  simp -implicitDefEqProofs only [go_sem, eR, i5, zrw]
  refine Run.wk (.freeze (b := (7 * 10000 + 15)) (st := 2) (sz := 5) (rs := [i5 1 1 0 0 0, i5 18 1 1 0 0]) (sl' := [(3, .ptr (7 * 10000 + 3) 3 0 0), (2, .isl [[.int .i64 0, .int .i64 1, .isl [zrw 1, zrw 2]], [.int .i64 1, .int .i64 2, .isl [zrw 2]], [.int .i64 2, .int .i64 3, .isl []]])]) (h' := [((7 * 10000 + 3), 3, .rows 11 [eR 2 [i5 1 1 0 0 0, i5 18 1 1 0 0]])]) (List.mem_cons_of_mem _ List.mem_cons_self) ⟨.of (.refl _), .of (.refl _), trivial⟩ ⟨⟨_, List.mem_cons_self, by decide, FrzB.proto rfl⟩, trivial⟩) ?_
  refine Run.go 2 ?_
  simp -implicitDefEqProofs only [go_sem, eR, i5, zrw]
  refine CallS.pureF xLive (by simp -implicitDefEqProofs only [go_sem, eR, i5, zrw]) ?_
  simp -implicitDefEqProofs only [go_sem, eR, i5, zrw]
  refine Run.go 2 ?_
  simp -implicitDefEqProofs only [go_sem, eR, i5, zrw]
  refine Run.wk (.freeze (b := (7 * 10000 + 20)) (st := 4) (sz := 5) (rs := [i5 14 0 0 0 0]) (sl' := [(5, .ptr (7 * 10000 + 5) 5 0 0), (4, .isl [[.isl [zrw 0]], [.isl [zrw 1]]]), (2, .isl [[.int .i64 0, .int .i64 1, .isl [zrw 1, zrw 2]], [.int .i64 1, .int .i64 2, .isl [zrw 2]], [.int .i64 2, .int .i64 3, .isl []]])]) (h' := [((7 * 10000 + 5), 5, .rows 11 [eR 0 [i5 14 0 0 0 0]])]) (List.mem_cons_of_mem _ List.mem_cons_self) ⟨.of (.refl _), .of (.refl _), .of (.refl _), trivial⟩ ⟨⟨_, List.mem_cons_self, by decide, FrzB.proto rfl⟩, trivial⟩) ?_
  have s1 : rowsz [[V.int .i64 0, .int .i64 1, .isl [zrw 1, zrw 2]], [.int .i64 1, .int .i64 2, .isl [zrw 2]], [.int .i64 2, .int .i64 3, .isl []]] 3 = True := eq_true (rowszB_iff rfl)
  have s2 : rowsz [[V.isl [zrw 0]], [.isl [zrw 1]]] 1 = True := eq_true (rowszB_iff rfl)
  have s3 : rowsz [[V.bool true]] 1 = True := eq_true (rowszB_iff rfl)
  refine Run.go 100 ?_
  simp -implicitDefEqProofs only [go_sem, eR, i5, zrw, Option.some.injEq, forall_eq']
  repeat' first
    | refine And.intro ?_ ?_
    | rfl
    | exact rowszB_iff rfl
    | (refine CallS.pure i12 ?_ ?_; (focus (simp -implicitDefEqProofs only [go_sem, eR, i5, zrw]; done)); simp -implicitDefEqProofs only [go_sem, eR, i5, zrw, Option.some.injEq, forall_eq'])
    | (refine CallS.pure (i1 2) ?_ ?_; (focus (simp -implicitDefEqProofs only [go_sem, eR, i5, zrw]; done)); simp -implicitDefEqProofs only [go_sem, eR, i5, zrw, Option.some.injEq, forall_eq'])
    | (refine CallS.pure (i1 0) ?_ ?_; (focus (simp -implicitDefEqProofs only [go_sem, eR, i5, zrw]; done)); simp -implicitDefEqProofs only [go_sem, eR, i5, zrw, Option.some.injEq, forall_eq'])
    | (refine CallS.pure (i1 1) ?_ ?_; (focus (simp -implicitDefEqProofs only [go_sem, eR, i5, zrw]; done)); simp -implicitDefEqProofs only [go_sem, eR, i5, zrw, Option.some.injEq, forall_eq'])
    | (refine CallS.pure xNext ?_ ?_; (focus (simp -implicitDefEqProofs only [go_sem, eR, i5, zrw]; done)); simp -implicitDefEqProofs only [go_sem, eR, i5, zrw, Option.some.injEq, forall_eq'])
    | (refine CallS.pure xLoops ?_ ?_; (focus (simp -implicitDefEqProofs only [go_sem, eR, i5, zrw]; done)); simp -implicitDefEqProofs only [go_sem, eR, i5, zrw, Option.some.injEq, forall_eq'])
    | (refine CallS.pure xReach ?_ ?_; (focus (simp -implicitDefEqProofs only [go_sem, eR, i5, zrw]; done)); simp -implicitDefEqProofs only [go_sem, eR, i5, zrw, Option.some.injEq, forall_eq'])
  all_goals trace_state
end Go.Proofs.YtdnpnbenahpllaaDoor
