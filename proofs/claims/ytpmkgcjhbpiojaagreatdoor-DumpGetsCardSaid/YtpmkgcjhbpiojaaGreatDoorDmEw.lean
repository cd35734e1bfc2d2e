/-
 What the reference's reader of functions takes from its bytes. No condition.
-/
import Derived.Test.YtpmkgcjhbpiojaaGreatDoorDmEv
import Derived.Test.YtpmkgcjhbpiojaaGreatDoorFnRc
import Derived.Test.YtpmkgcjhbpiojaaGreatDoorDmGV
set_option linter.unusedVariables false
set_option linter.unusedSimpArgs false
set_option maxRecDepth 100000
set_option maxHeartbeats 0
namespace Go.Proofs.YtpmkgcjhbpiojaaGreatDoor
open Go.Abs
attribute [local irreducible] A3 C2 Run
-- EV: rE, eF, eL
theorem Rd.assoc {α β γ : Type} (x : Rd α) (f : α → List Int → Rd β) (g : β → List Int → Rd γ) : (x.bind f).bind g = x.bind fun a l => (f a l).bind g := by
 cases x <;> rfl
def B2u (f : List Int → Rd Fn) (l : List Int) : Rd Fn := (A6g l).bind fun name l => (J0 l).bind fun line l => (J0 l).bind fun params l => (B0Q 1 l).bind fun c l => (J0 l).bind fun regs l =>
 (A8h l).bind fun x l => (I1 f l).bind (fk4 ⟨name, line, params, decide (c = 1), regs, x.1, x.2.1, x.2.2, [], [], []⟩)
theorem C1X (d : Nat) (l : List Int) : A1z (d + 1) l = B2u (A1z d) l := by
 rw [B4A]
 unfold B2u
 congr 1; funext name l
 congr 1; funext line l
 congr 1; funext params l
 rw [A7X, Rd.assoc]
 congr 1; funext c l
 rw [Rd.bind_ok]
 congr 1; funext regs l
 unfold A8h
 rw [Rd.assoc]
 congr 1; funext code l
 unfold fk1 kL0
 rw [Rd.assoc]
 congr 1; funext lines l
 unfold fk2 kL1
 rw [Rd.assoc]
 congr 1
theorem C9N {β : Type} {g : Upv → List Int → Rd β} : (fun l => (upP l).bind g) = fun l => (A6g l).bind fun s l => (B0Q 1 l).bind fun c l => (J0 l).bind fun i l => g ⟨s, decide (c = 1), i⟩ l := by
 funext l
 unfold upP
 rw [Rd.assoc]
 congr 1; funext s l
 rw [A7X, Rd.assoc, Rd.assoc]
 congr 1; funext c l
 rw [Rd.bind_ok, Rd.assoc]
 congr 1
theorem D0b {β : Type} {g : Vr → List Int → Rd β} : (fun l => (vrP l).bind g) = fun l => (A6g l).bind fun s l => (J0 l).bind fun a l => (J0 l).bind fun b l => (J0 l).bind fun c l => (J0 l).bind fun d l => g ⟨s, a, b, c, d⟩ l := by
 funext l
 unfold vrP
 rw [Rd.assoc]
 congr 1; funext s l
 rw [Rd.assoc]
 congr 1; funext a l
 rw [Rd.assoc]
 congr 1; funext b l
 rw [Rd.assoc]
 congr 1; funext c l
 rw [Rd.assoc]
 congr 1
abbrev A9n : List V := [.str [], .int .i64 0, .int .i64 0, .bool false, .int .i64 0, .nils, .nils, .nils, .nils, .nils, .nils]
def C1Q : AC := match D7 with
 | .seq _ (.seq _ (.seq _ r)) => r
 | x => x
theorem C1V (s : Nat) (B : List Int) (hB : A6D B) (z : Int) (hz : z ≤ 65) (hz0 : 0 ≤ z) (f : List Int → Rd Fn)
  (hrec : ¬ z > 64 → ∀ n k, k ≤ B.length → A3 Tryz.prog 16 [.ptr rE s 0 0, .int .i64 (z + 1)] (rrH s B k 0) n (A9v s B k 0 f fun p => .agg p.row))
  (Q : Res) (G : Rd Fn) (sp so n : Nat) (hQ : ∀ p k' e' n', k' ≤ B.length → At B k' e' G (fun l => .ok (p, l)) → Q (.agg p.row) (rrH s B k' e') n') (k : Nat) (hk : k ≤ B.length) (e : Int) (hA0 : At B k e G (B2u f)) (hne0 : z > 64 → e ≠ 0) :
  Run ⟨Tryz.prog, 121, [.c 4 11 true], A2A Q, none, none⟩ [.code C1Q] ⟨[(5, .ptr (eF 5) sp 0 0), (4, .ptr (eF 4) so 0 0), (1, .int .i64 z), (0, .ptr rE s 0 0)], [(rE, s, .rows 3 [[.isl (byR B), .int .i64 k, .int .i64 e]]), (eF 5, sp, .rows 11 [A9n]), (eF 4, so, .rows 11 [A9n])], n⟩ := by
 have hco := fun n k (hk : k ≤ B.length) e => A6Q s n B hB k hk e
 have hin := fun n k (hk : k ≤ B.length) e => A4n s n B hB k hk e
 have hoc := fun n k (hk : k ≤ B.length) e => B3q s n B hB k hk e 1
 have hst := fun n k (hk : k ≤ B.length) e => B3K s n B hB k hk e
 have hli := fun sp n k (hk : k ≤ B.length) e a b c d g => B8c s sp n B hB k hk e a b c d g
 have hB2 := hB.2
 have hnx : ∀ {α : Type} {k k' : Nat} {e e' : Int} {f : List Int → Rd α} {x : α}, (z > 64 → e ≠ 0) → Rsp B k e f x k' e' → (z > 64 → e' ≠ 0) := fun h hr c => by rw [hr.keep (h c)]; exact h c
 unfold B2u at hA0
 dsimp only [C1Q, D7]
 refine Run.go 100 ?_
 simp -implicitDefEqProofs only [go_sem, rE, eF, eL]
 refine A3.at [0] [1, 2] (hst _ k hk e) rfl rfl ?_
 rintro r h' n1 _ ⟨name, k1, e1, hr1, rfl, rfl⟩
 have hA1 := hA0.step hr1
 have hne1 := hnx hne0 hr1
 clear hA0 hne0
 simp -implicitDefEqProofs only [go_sem, rE, eF, eL, rrH]
 refine A3.at [1] [0, 2] (hin _ k1 hr1.le e1) rfl rfl ?_
 rintro r h' n2 _ ⟨line, k2, e2, hr2, rfl, rfl⟩
 have hA2 := hA1.step hr2
 have hne2 := hnx hne1 hr2
 clear hA1 hne1
 simp -implicitDefEqProofs only [go_sem, rE, eF, eL, rrH]
 refine A3.at [1] [0, 2] (hin _ k2 hr2.le e2) rfl rfl ?_
 rintro r h' n3 _ ⟨params, k3, e3, hr3, rfl, rfl⟩
 have hA3 := hA2.step hr3
 have hne3 := hnx hne2 hr3
 clear hA2 hne2
 simp -implicitDefEqProofs only [go_sem, rE, eF, eL, rrH]
 refine A3.at [1] [0, 2] (hoc _ k3 hr3.le e3) rfl rfl ?_
 rintro r h' n4 _ ⟨c, k4, e4, hr4, rfl, rfl⟩
 have hA4 := hA3.step hr4
 have hne4 := hnx hne3 hr4
 clear hA3 hne3
 simp -implicitDefEqProofs only [go_sem, rE, eF, eL, rrH]
 refine A3.at [1] [0, 2] (hin _ k4 hr4.le e4) rfl rfl ?_
 rintro r h' n5 _ ⟨regs, k5, e5, hr5, rfl, rfl⟩
 have hA5 := hA4.step hr5
 have hne5 := hnx hne4 hr5
 clear hA4 hne4
 simp -implicitDefEqProofs only [go_sem, rE, eF, eL, rrH]
 refine A3.at [1, 0] [2] (hli sp _ k5 hr5.le e5 _ _ _ _ _) rfl rfl ?_
 rintro r h' n6 _ ⟨rfl, xl, k6, e6, hr6, rfl⟩
 have hA6 := hA5.step hr6
 have hne6 := hnx hne5 hr6
 have hk6 := hr6.le
 clear hA5 hne5
 obtain ⟨code, lines, consts⟩ := xl
 dsimp only at hA6
 simp -implicitDefEqProofs only [go_sem, rE, eF, eL, rrH]
 -- protos
 refine A3.at [0] [1, 2] (hco _ k6 hk6 e6) rfl rfl ?_
 rintro r h' m0 _ ⟨N0, a0, f0, hr, hN0, rfl, rfl⟩
 have hB0 := (At.list hA6).step hr
 have hn0 := hnx hne6 hr
 have la0 := hr.le
 clear hr hA6 hne6
 simp -implicitDefEqProofs only [go_sem, rE, eF, eL, rrH]
 refine Run.roundsK (fun (x : List Fn × Nat × Nat × Int × Nat × Nat) => ⟨[(6, .int .i64 (x.2.1 : Int)), (5, .ptr (eF 5) sp 0 0), (4, .ptr (eF 4) so 0 0), (1, .int .i64 z), (0, .ptr rE s 0 0)], [(rE, s, .rows 3 [[.isl (byR B), .int .i64 x.2.2.1, .int .i64 x.2.2.2.1]]), (eF 5, sp, .rows 11 [[.str name, .int .i64 line, .int .i64 params, .bool (decide (c = 1)), .int .i64 regs, .isl (code.map Ins.row), .isl (lines.map C8), .isl (consts.map Kst.row), .sl (eF 54) x.2.2.2.2.1 0 x.1.length, .nils, .nils]]), (eF 4, so, .rows 11 [A9n]), (eF 54, x.2.2.2.2.1, .rows 11 (x.1.map Fn.row))], x.2.2.2.2.2⟩)
  (fun x => x.1.length + x.2.1 ≤ B.length ∧ x.2.2.1 ≤ B.length ∧ (z > 64 → x.2.2.2.1 ≠ 0) ∧ At B x.2.2.1 x.2.2.2.1 G fun l => (F4 f x.2.1 l).bind fun r l => fk4 ⟨name, line, params, decide (c = 1), regs, code, lines, consts, [], [], []⟩ (x.1 ++ r) l) (fun x => x.2.1) ([], N0, a0, f0, m0, m0 + 1) ?_ ⟨by simpa using hN0, la0, hn0, hB0⟩ ?_
 ·refine .trans (.fresh (eF 54) 11 _ _ _) (.turn id ⟨.refl _, .refl _, .refl _, .refl _, .refl _, trivial⟩ ?_)
  simp -implicitDefEqProofs only [go_sem, rE, eF, eL, Nat.reduceDiv]
  exact .at 1 rfl rfl (.refl _) (.at 2 rfl rfl (.row ⟨.refl _, .refl _, .refl _, .refl _, .refl _, .refl _, .refl _, .refl _, .nils, .refl _, .refl _, trivial⟩) (.at 3 rfl rfl (.refl _) (.at 0 rfl rfl (.refl _) (.of fun e he => by cases he))))
 clear hB0
 rintro ⟨protos, q, b, ee, st, mm⟩ ⟨hl, hb, hne, hA⟩ lp
 dsimp only at hl hb hne hA lp ⊢
 by_cases cc : q = 0 ∨ ee ≠ 0
 rotate_left
 ·obtain ⟨q, rfl⟩ : ∃ t, q = t + 1 := ⟨q - 1, by omega⟩
  obtain rfl : ee = 0 := by omega
  have hz64 : ¬ z > 64 := fun h => hne h rfl
  have p0 : (((q + 1 : Nat) : Int) > 0) = True := eq_true (by omega)
  have p1 : ((q + 1 : Nat) : Int) - 1 = (q : Int) := by omega
  rw [A7e] at hA
  have hlt : (protos.map Fn.row).length = protos.length := List.length_map ..
  have hsz : C4 (protos.map Fn.row) 11 = True := eq_true fun r hr => by obtain ⟨y, _, rfl⟩ := List.mem_map.1 hr; exact Fn.row_len y
  have htk : (protos.map Fn.row).take protos.length = protos.map Fn.row := List.take_of_length_le (by omega)
  have j1 : (protos.length ≤ protos.length) = True := eq_true (Nat.le_refl _)
  have j2 : (protos.length ≤ 137438953471) = True := eq_true (by omega)
  have fin := fun (x : Fn) b2 e2 s2 m2 s' (hr : Rsp B b 0 f x b2 e2) => lp s' (protos ++ [x], q, b2, e2, s2, m2) ⟨by simp; omega, hr.le, hnx hne hr, hA.step hr⟩ (by dsimp only; omega)
  have hset : ∀ y, (protos.map Fn.row ++ [A9n]).set protos.length y = protos.map Fn.row ++ [y] := fun y => by rw [List.set_append_right _ _ (by omega), hlt, Nat.sub_self]; rfl
  have hgl : (protos.map Fn.row ++ [A9n]).length = protos.length + 1 := by simp
  have hgt : (protos.map Fn.row ++ [A9n])[protos.length]? = some A9n := by rw [List.getElem?_append_right (by omega), hlt, Nat.sub_self]; rfl
  have j3 : (protos.length < protos.length + 1) = True := eq_true (by omega)
  have j4 : (((protos.length : Nat) : Int) < ((protos.length + 1 : Nat) : Int)) = True := eq_true (by omega)
  have j5 : ((0 : Int) ≤ (protos.length : Int)) = True := eq_true (by omega)
  have hre := hrec hz64
  try dsimp only at fin
  simp only [List.map_append, List.map_cons, List.map_nil, List.length_append, List.length_cons, List.length_nil] at fin
  clear lp
  refine Run.unf G8 (Run.go 100 ?_)
  generalize protos.map Fn.row = RR at *
  generalize protos.length = kk at *
  simp -implicitDefEqProofs only [go_sem, rE, eF, eL, p0, hlt, hsz, htk, j1, j2, j3, j4, j5, hset, hgl, hgt, Nat.reduceDiv, Option.some.injEq, forall_eq', Int.toNat_natCast]
  repeat' refine And.intro ?_ ?_
  all_goals first
   | omega
   | (first | refine A3.at [0] [1, 2, 3] (hre _ b hb) rfl rfl ?_ | refine A3.at [1] [0, 2, 3] (hre _ b hb) rfl rfl ?_
      rintro r h' w1 _ ⟨x, b2, e2, hr, rfl, rfl⟩
      simp -implicitDefEqProofs only [go_sem, rE, eF, eL, rrH, hlt, hsz, htk, j1, j2, j3, j4, j5, hset, hgl, hgt, Nat.reduceDiv, Option.some.injEq, forall_eq', Int.toNat_natCast, p1, Fn.row_eq]
      have hB : A1y (.rows 11 (RR ++ [[.str x.name, .int .i64 x.line, .int .i64 x.params, .bool x.vararg, .int .i64 x.regs, .isl (x.code.map Ins.row), .isl (x.lines.map C8), .isl (x.consts.map Kst.row), .isl (x.protos.map Fn.row), .isl (x.ups.map Upv.row), .isl (x.vars.map Vr.row)]])) (.rows 11 (RR ++ [x.row])) := .of_eq (by rw [Fn.row_eq x])
      exact ⟨⟨by omega, by omega⟩, fin x b2 e2 _ _ _ hr (.turn id ⟨.refl _, .refl _, .refl _, .refl _, .refl _, trivial⟩ (.at 2 rfl rfl (.refl _) (by first | exact .at 0 rfl rfl (.refl _) (.at 3 rfl rfl (.refl _) (.at 1 rfl rfl hB (.of fun e he => by cases he))) | exact .at 1 rfl rfl (.refl _) (.at 3 rfl rfl (.refl _) (.at 0 rfl rfl hB (.of fun e he => by cases he))))))⟩)
 have hA7 := A4q hA (by omega)
 unfold fk4 at hA7
 have hne7 := hne
 dsimp only at hA7
 clear lp hA hne
 refine Run.wk (s' := ⟨[(6, .int .i64 (q : Int)), (5, .ptr (eF 5) sp 0 0), (4, .ptr (eF 4) so 0 0), (1, .int .i64 z), (0, .ptr rE s 0 0)], [(rE, s, .rows 3 [[.isl (byR B), .int .i64 b, .int .i64 ee]]), (eF 5, sp, .rows 11 [[.str name, .int .i64 line, .int .i64 params, .bool (decide (c = 1)), .int .i64 regs, .isl (code.map Ins.row), .isl (lines.map C8), .isl (consts.map Kst.row), .isl (protos.map Fn.row), .nils, .nils]]), (eF 4, so, .rows 11 [A9n])], mm⟩)
  (.freeze (b := eF 54) (st := st) (sz := 11) (rs := protos.map Fn.row) (by simp) ⟨.of (.refl _), .of (.refl _), .of (.refl _), .of (.refl _), .of (.refl _), trivial⟩
    (.at 0 rfl (by decide) (.of (.refl _)) (.at 1 rfl (by decide) (A3M.one ⟨.of (.refl _), .of (.refl _), .of (.refl _), .of (.refl _), .of (.refl _), .of (.refl _), .of (.refl _), .of (.refl _), Frz.all (by simp), .of (.refl _), .of (.refl _), trivial⟩) (.at 2 rfl (by decide) (.of (.refl _)) trivial)))) ?_
 refine Run.unf G8 ?_
 have hcz : (((q : Int) > 0) = False) ∨ (((q : Int) > 0) = True ∧ ee ≠ 0) := by
  by_cases cz : q = 0
  ·exact .inl (eq_false (by omega))
  ·exact .inr ⟨eq_true (by omega), by omega⟩
 apply A8x
 ·intro h
  rcases hcz with p0 | ⟨p0, ce⟩
  all_goals (
   refine Run.go 5 ?_
   first | simp -implicitDefEqProofs only [go_sem, rE, eF, eL, p0, ce] | simp -implicitDefEqProofs only [go_sem, rE, eF, eL, p0]
   refine Run.keep [5, 4, 1, 0] ?_
   exact h)
 refine Run.go 100 ?_
 simp -implicitDefEqProofs only [go_sem, rE, eF, eL]
 -- ups
 refine A3.at [0] [1, 2] (hco _ b hb ee) rfl rfl ?_
 rintro r h' m1 _ ⟨N1, a1, f1, hr, hN1, rfl, rfl⟩
 have hB1 := (At.list hA7).step hr
 have hn1 := hnx hne7 hr
 have la1 := hr.le
 clear hr hA7 hne7
 simp -implicitDefEqProofs only [go_sem, rE, eF, eL, rrH]
 refine Run.roundsK (fun (x : List Upv × Nat × Nat × Int × Nat × Nat) => ⟨[(7, .int .i64 (x.2.1 : Int)), (5, .ptr (eF 5) sp 0 0), (4, .ptr (eF 4) so 0 0), (1, .int .i64 z), (0, .ptr rE s 0 0)], [(rE, s, .rows 3 [[.isl (byR B), .int .i64 x.2.2.1, .int .i64 x.2.2.2.1]]), (eF 5, sp, .rows 11 [[.str name, .int .i64 line, .int .i64 params, .bool (decide (c = 1)), .int .i64 regs, .isl (code.map Ins.row), .isl (lines.map C8), .isl (consts.map Kst.row), .isl (protos.map Fn.row), .sl (eF 84) x.2.2.2.2.1 0 x.1.length, .nils]]), (eF 4, so, .rows 11 [A9n]), (eF 84, x.2.2.2.2.1, .rows 3 (x.1.map Upv.row))], x.2.2.2.2.2⟩)
  (fun x => x.1.length + x.2.1 ≤ B.length ∧ x.2.2.1 ≤ B.length ∧ (z > 64 → x.2.2.2.1 ≠ 0) ∧ At B x.2.2.1 x.2.2.2.1 G fun l => (F4 upP x.2.1 l).bind fun r l => fk5 ⟨name, line, params, decide (c = 1), regs, code, lines, consts, protos, [], []⟩ (x.1 ++ r) l) (fun x => x.2.1) ([], N1, a1, f1, m1, m1 + 1) ?_ ⟨by simpa using hN1, la1, hn1, hB1⟩ ?_
 ·refine .trans (.fresh (eF 84) 3 _ _ _) (.turn id ⟨.refl _, .refl _, .refl _, .refl _, .refl _, trivial⟩ ?_)
  simp -implicitDefEqProofs only [go_sem, rE, eF, eL, Nat.reduceDiv]
  exact .at 1 rfl rfl (.refl _) (.at 2 rfl rfl (.row ⟨.refl _, .refl _, .refl _, .refl _, .refl _, .refl _, .refl _, .refl _, .refl _, .nils, .refl _, trivial⟩) (.at 3 rfl rfl (.refl _) (.at 0 rfl rfl (.refl _) (.of fun e he => by cases he))))
 clear hB1
 rintro ⟨ups, q, b, ee, st, mm⟩ ⟨hl, hb, hne, hA⟩ lp
 dsimp only at hl hb hne hA lp ⊢
 by_cases cc : q = 0 ∨ ee ≠ 0
 rotate_left
 ·obtain ⟨q, rfl⟩ : ∃ t, q = t + 1 := ⟨q - 1, by omega⟩
  obtain rfl : ee = 0 := by omega
  have hz64 : ¬ z > 64 := fun h => hne h rfl
  have p0 : (((q + 1 : Nat) : Int) > 0) = True := eq_true (by omega)
  have p1 : ((q + 1 : Nat) : Int) - 1 = (q : Int) := by omega
  rw [A7e, C9N] at hA
  have hlt : (ups.map Upv.row).length = ups.length := List.length_map ..
  have hsz : C4 (ups.map Upv.row) 3 = True := eq_true fun r hr => by obtain ⟨y, _, rfl⟩ := List.mem_map.1 hr; rfl
  have htk : (ups.map Upv.row).take ups.length = ups.map Upv.row := List.take_of_length_le (by omega)
  have j1 : (ups.length ≤ ups.length) = True := eq_true (Nat.le_refl _)
  have j2 : (ups.length ≤ 137438953471) = True := eq_true (by omega)
  have fin := fun x b2 e2 s2 m2 s' (hb2 : b2 ≤ B.length) (hn2 : z > 64 → e2 ≠ 0) h2 => lp s' (ups ++ [x], q, b2, e2, s2, m2) ⟨by simp; omega, hb2, hn2, h2⟩ (by dsimp only; omega)
  try dsimp only at fin
  simp only [List.map_append, List.map_cons, List.map_nil, List.length_append, List.length_cons, List.length_nil] at fin
  clear lp
  refine Run.unf H3 (Run.go 100 ?_)
  generalize ups.map Upv.row = RR at *
  generalize ups.length = kk at *
  simp -implicitDefEqProofs only [go_sem, rE, eF, eL, p0, hlt, hsz, htk, j1, j2, Nat.reduceDiv]
  refine A3.at [0] [1, 2, 3] (hst _ b hb 0) rfl rfl ?_
  rintro r h' w0 _ ⟨t, b1, g1, hr0', rfl, rfl⟩
  replace hA := hA.step hr0'
  replace hne := hnx hne hr0'
  simp -implicitDefEqProofs only [go_sem, rE, eF, eL, rrH, hlt, hsz, htk, j1, j2, Nat.reduceDiv]
  refine A3.at [1] [0, 2, 3, 4] (hoc _ b1 hr0'.le g1) rfl rfl ?_
  rintro r h' w1 _ ⟨tc, b2, g2, hr1', rfl, rfl⟩
  replace hA := hA.step hr1'
  replace hne := hnx hne hr1'
  simp -implicitDefEqProofs only [go_sem, rE, eF, eL, rrH, hlt, hsz, htk, j1, j2, Nat.reduceDiv]
  refine A3.at [1] [0, 2, 3, 4] (hin _ b2 hr1'.le g2) rfl rfl ?_
  rintro r h' w2 _ ⟨z1, b3, g3, hr2', rfl, rfl⟩
  replace hA := hA.step hr2'
  replace hne := hnx hne hr2'
  simp -implicitDefEqProofs only [go_sem, rE, eF, eL, rrH, hlt, hsz, htk, j1, j2, Nat.reduceDiv, p1]
  exact ⟨⟨by omega, by omega⟩, fin ⟨t, decide (tc = 1), z1⟩ b3 g3 _ _ _ hr2'.le hne hA (.turn id ⟨.refl _, .refl _, .refl _, .refl _, .refl _, trivial⟩ (.at 3 rfl rfl (.refl _) (.at 0 rfl rfl (.refl _) (.at 4 rfl rfl (.refl _) (.at 1 rfl rfl (.refl _) (.of fun e he => by cases he))))))⟩
 have hA8 := A4q hA (by omega)
 unfold fk5 at hA8
 have hne8 := hne
 dsimp only at hA8
 clear lp hA hne
 refine Run.wk (s' := ⟨[(7, .int .i64 (q : Int)), (5, .ptr (eF 5) sp 0 0), (4, .ptr (eF 4) so 0 0), (1, .int .i64 z), (0, .ptr rE s 0 0)], [(rE, s, .rows 3 [[.isl (byR B), .int .i64 b, .int .i64 ee]]), (eF 5, sp, .rows 11 [[.str name, .int .i64 line, .int .i64 params, .bool (decide (c = 1)), .int .i64 regs, .isl (code.map Ins.row), .isl (lines.map C8), .isl (consts.map Kst.row), .isl (protos.map Fn.row), .isl (ups.map Upv.row), .nils]]), (eF 4, so, .rows 11 [A9n])], mm⟩)
  (.freeze (b := eF 84) (st := st) (sz := 3) (rs := ups.map Upv.row) (by simp) ⟨.of (.refl _), .of (.refl _), .of (.refl _), .of (.refl _), .of (.refl _), trivial⟩
    (.at 0 rfl (by decide) (.of (.refl _)) (.at 1 rfl (by decide) (A3M.one ⟨.of (.refl _), .of (.refl _), .of (.refl _), .of (.refl _), .of (.refl _), .of (.refl _), .of (.refl _), .of (.refl _), .of (.refl _), Frz.all (by simp), .of (.refl _), trivial⟩) (.at 2 rfl (by decide) (.of (.refl _)) trivial)))) ?_
 refine Run.unf H3 ?_
 have hcz : (((q : Int) > 0) = False) ∨ (((q : Int) > 0) = True ∧ ee ≠ 0) := by
  by_cases cz : q = 0
  ·exact .inl (eq_false (by omega))
  ·exact .inr ⟨eq_true (by omega), by omega⟩
 apply A8x
 ·intro h
  rcases hcz with p0 | ⟨p0, ce⟩
  all_goals (
   refine Run.go 5 ?_
   first | simp -implicitDefEqProofs only [go_sem, rE, eF, eL, p0, ce] | simp -implicitDefEqProofs only [go_sem, rE, eF, eL, p0]
   refine Run.keep [5, 4, 1, 0] ?_
   exact h)
 refine Run.go 100 ?_
 simp -implicitDefEqProofs only [go_sem, rE, eF, eL]
 -- vars
 refine A3.at [0] [1, 2] (hco _ b hb ee) rfl rfl ?_
 rintro r h' m2 _ ⟨N2, a2, f2, hr, hN2, rfl, rfl⟩
 have hB2 := (At.list hA8).step hr
 have hn2 := hnx hne8 hr
 have la2 := hr.le
 clear hr hA8 hne8
 simp -implicitDefEqProofs only [go_sem, rE, eF, eL, rrH]
 refine Run.roundsK (fun (x : List Vr × Nat × Nat × Int × Nat × Nat) => ⟨[(9, .int .i64 (x.2.1 : Int)), (5, .ptr (eF 5) sp 0 0), (4, .ptr (eF 4) so 0 0), (1, .int .i64 z), (0, .ptr rE s 0 0)], [(rE, s, .rows 3 [[.isl (byR B), .int .i64 x.2.2.1, .int .i64 x.2.2.2.1]]), (eF 5, sp, .rows 11 [[.str name, .int .i64 line, .int .i64 params, .bool (decide (c = 1)), .int .i64 regs, .isl (code.map Ins.row), .isl (lines.map C8), .isl (consts.map Kst.row), .isl (protos.map Fn.row), .isl (ups.map Upv.row), .sl (eF 118) x.2.2.2.2.1 0 x.1.length]]), (eF 4, so, .rows 11 [A9n]), (eF 118, x.2.2.2.2.1, .rows 5 (x.1.map Vr.row))], x.2.2.2.2.2⟩)
  (fun x => x.1.length + x.2.1 ≤ B.length ∧ x.2.2.1 ≤ B.length ∧ (z > 64 → x.2.2.2.1 ≠ 0) ∧ At B x.2.2.1 x.2.2.2.1 G fun l => (F4 vrP x.2.1 l).bind fun r l => fk6 ⟨name, line, params, decide (c = 1), regs, code, lines, consts, protos, ups, []⟩ (x.1 ++ r) l) (fun x => x.2.1) ([], N2, a2, f2, m2, m2 + 1) ?_ ⟨by simpa using hN2, la2, hn2, hB2⟩ ?_
 ·refine .trans (.fresh (eF 118) 5 _ _ _) (.turn id ⟨.refl _, .refl _, .refl _, .refl _, .refl _, trivial⟩ ?_)
  simp -implicitDefEqProofs only [go_sem, rE, eF, eL, Nat.reduceDiv]
  exact .at 1 rfl rfl (.refl _) (.at 2 rfl rfl (.row ⟨.refl _, .refl _, .refl _, .refl _, .refl _, .refl _, .refl _, .refl _, .refl _, .refl _, .nils, trivial⟩) (.at 3 rfl rfl (.refl _) (.at 0 rfl rfl (.refl _) (.of fun e he => by cases he))))
 clear hB2
 rintro ⟨vars, q, b, ee, st, mm⟩ ⟨hl, hb, hne, hA⟩ lp
 dsimp only at hl hb hne hA lp ⊢
 by_cases cc : q = 0 ∨ ee ≠ 0
 rotate_left
 ·obtain ⟨q, rfl⟩ : ∃ t, q = t + 1 := ⟨q - 1, by omega⟩
  obtain rfl : ee = 0 := by omega
  have hz64 : ¬ z > 64 := fun h => hne h rfl
  have p0 : (((q + 1 : Nat) : Int) > 0) = True := eq_true (by omega)
  have p1 : ((q + 1 : Nat) : Int) - 1 = (q : Int) := by omega
  rw [A7e, D0b] at hA
  have hlt : (vars.map Vr.row).length = vars.length := List.length_map ..
  have hsz : C4 (vars.map Vr.row) 5 = True := eq_true fun r hr => by obtain ⟨y, _, rfl⟩ := List.mem_map.1 hr; rfl
  have htk : (vars.map Vr.row).take vars.length = vars.map Vr.row := List.take_of_length_le (by omega)
  have j1 : (vars.length ≤ vars.length) = True := eq_true (Nat.le_refl _)
  have j2 : (vars.length ≤ 137438953471) = True := eq_true (by omega)
  have fin := fun x b2 e2 s2 m2 s' (hb2 : b2 ≤ B.length) (hn2 : z > 64 → e2 ≠ 0) h2 => lp s' (vars ++ [x], q, b2, e2, s2, m2) ⟨by simp; omega, hb2, hn2, h2⟩ (by dsimp only; omega)
  try dsimp only at fin
  simp only [List.map_append, List.map_cons, List.map_nil, List.length_append, List.length_cons, List.length_nil] at fin
  clear lp
  refine Run.unf H1 (Run.go 100 ?_)
  generalize vars.map Vr.row = RR at *
  generalize vars.length = kk at *
  simp -implicitDefEqProofs only [go_sem, rE, eF, eL, p0, hlt, hsz, htk, j1, j2, Nat.reduceDiv]
  refine A3.at [0] [1, 2, 3] (hst _ b hb 0) rfl rfl ?_
  rintro r h' w0 _ ⟨t, b1, g1, hr0', rfl, rfl⟩
  replace hA := hA.step hr0'
  replace hne := hnx hne hr0'
  simp -implicitDefEqProofs only [go_sem, rE, eF, eL, rrH, hlt, hsz, htk, j1, j2, Nat.reduceDiv]
  refine A3.at [1] [0, 2, 3, 4] (hin _ b1 hr0'.le g1) rfl rfl ?_
  rintro r h' w1 _ ⟨z1, b2, g2, hr1', rfl, rfl⟩
  replace hA := hA.step hr1'
  replace hne := hnx hne hr1'
  simp -implicitDefEqProofs only [go_sem, rE, eF, eL, rrH, hlt, hsz, htk, j1, j2, Nat.reduceDiv]
  refine A3.at [1] [0, 2, 3, 4] (hin _ b2 hr1'.le g2) rfl rfl ?_
  rintro r h' w2 _ ⟨z2, b3, g3, hr2', rfl, rfl⟩
  replace hA := hA.step hr2'
  replace hne := hnx hne hr2'
  simp -implicitDefEqProofs only [go_sem, rE, eF, eL, rrH, hlt, hsz, htk, j1, j2, Nat.reduceDiv]
  refine A3.at [1] [0, 2, 3, 4] (hin _ b3 hr2'.le g3) rfl rfl ?_
  rintro r h' w3 _ ⟨z3, b4, g4, hr3', rfl, rfl⟩
  replace hA := hA.step hr3'
  replace hne := hnx hne hr3'
  simp -implicitDefEqProofs only [go_sem, rE, eF, eL, rrH, hlt, hsz, htk, j1, j2, Nat.reduceDiv]
  refine A3.at [1] [0, 2, 3, 4] (hin _ b4 hr3'.le g4) rfl rfl ?_
  rintro r h' w4 _ ⟨z4, b5, g5, hr4', rfl, rfl⟩
  replace hA := hA.step hr4'
  replace hne := hnx hne hr4'
  simp -implicitDefEqProofs only [go_sem, rE, eF, eL, rrH, hlt, hsz, htk, j1, j2, Nat.reduceDiv, p1]
  exact ⟨⟨by omega, by omega⟩, fin ⟨t, z1, z2, z3, z4⟩ b5 g5 _ _ _ hr4'.le hne hA (.turn id ⟨.refl _, .refl _, .refl _, .refl _, .refl _, trivial⟩ (.at 3 rfl rfl (.refl _) (.at 0 rfl rfl (.refl _) (.at 4 rfl rfl (.refl _) (.at 1 rfl rfl (.refl _) (.of fun e he => by cases he))))))⟩
 have hA9 := A4q hA (by omega)
 unfold fk6 at hA9
 have hne9 := hne
 dsimp only at hA9
 clear lp hA hne
 refine Run.wk (s' := ⟨[(9, .int .i64 (q : Int)), (5, .ptr (eF 5) sp 0 0), (4, .ptr (eF 4) so 0 0), (1, .int .i64 z), (0, .ptr rE s 0 0)], [(rE, s, .rows 3 [[.isl (byR B), .int .i64 b, .int .i64 ee]]), (eF 5, sp, .rows 11 [[.str name, .int .i64 line, .int .i64 params, .bool (decide (c = 1)), .int .i64 regs, .isl (code.map Ins.row), .isl (lines.map C8), .isl (consts.map Kst.row), .isl (protos.map Fn.row), .isl (ups.map Upv.row), .isl (vars.map Vr.row)]]), (eF 4, so, .rows 11 [A9n])], mm⟩)
  (.freeze (b := eF 118) (st := st) (sz := 5) (rs := vars.map Vr.row) (by simp) ⟨.of (.refl _), .of (.refl _), .of (.refl _), .of (.refl _), .of (.refl _), trivial⟩
    (.at 0 rfl (by decide) (.of (.refl _)) (.at 1 rfl (by decide) (A3M.one ⟨.of (.refl _), .of (.refl _), .of (.refl _), .of (.refl _), .of (.refl _), .of (.refl _), .of (.refl _), .of (.refl _), .of (.refl _), .of (.refl _), Frz.all (by simp), trivial⟩) (.at 2 rfl (by decide) (.of (.refl _)) trivial)))) ?_
 refine Run.unf H1 ?_
 have hcz : (((q : Int) > 0) = False) ∨ (((q : Int) > 0) = True ∧ ee ≠ 0) := by
  by_cases cz : q = 0
  ·exact .inl (eq_false (by omega))
  ·exact .inr ⟨eq_true (by omega), by omega⟩
 apply A8x
 ·intro h
  rcases hcz with p0 | ⟨p0, ce⟩
  all_goals (
   refine Run.go 5 ?_
   first | simp -implicitDefEqProofs only [go_sem, rE, eF, eL, p0, ce] | simp -implicitDefEqProofs only [go_sem, rE, eF, eL, p0]
   refine Run.keep [5, 4, 1, 0] ?_
   exact h)
 refine Run.go 100 ?_
 simp -implicitDefEqProofs only [go_sem, rE, eF, eL]
 exact .to (h2 := rrH s B b ee) (hQ ⟨name, line, params, decide (c = 1), regs, code, lines, consts, protos, ups, vars⟩ b ee mm hb hA9) (.turn id ⟨.of_eq (by simp [C7, Fn.row_eq]), trivial⟩ (.at 1 rfl rfl (.refl _) (.of fun e he => by cases he)))
theorem B3H (s : Nat) (B : List Int) (hB : A6D B) (z : Int) (hz : z ≤ 65) (hz0 : 0 ≤ z) (f F : List Int → Rd Fn)
  (hrec : ¬ z > 64 → ∀ n k, k ≤ B.length → A3 Tryz.prog 16 [.ptr rE s 0 0, .int .i64 (z + 1)] (rrH s B k 0) n (A9v s B k 0 f fun p => .agg p.row))
  (hF : ¬ z > 64 → F = B2u f) (hF3 : z > 64 → ∀ l, F l = .error 3) (n k : Nat) (hk : k ≤ B.length) :
  A3 Tryz.prog 16 [.ptr rE s 0 0, .int .i64 z] (rrH s B k 0) n (A9v s B k 0 F fun p => .agg p.row) := by
 refine A3.enterK J6 (Nat.le_of_ble_eq_true rfl) fun Q hQ => Run.go 9 ?_
 have hD : ∀ {x k' e'}, k' ≤ B.length → At B k' e' (F (B.drop k)) (fun l => .ok (x, l)) → Rsp B k 0 F x k' e' := fun h1 h2 => At.done h1 (by rw [if_pos rfl]; exact h2)
 have hT := fun e sp so n h1 h2 => C1V s B hB z hz hz0 f hrec Q (F (B.drop k)) sp so n (fun p k' e' n' h1 h2 => by rw [hQ]; exact ⟨p, k', e', hD h1 h2, rfl, rfl⟩) k hk e h1 h2
 clear hQ
 unfold rrH
 by_cases c : z > 64
 ·simp -implicitDefEqProofs only [go_sem, rE, eF, eL, A8, c]
  refine A3.at [2] [0, 1] (A5b s _ B k 0 3) rfl rfl ?_
  rintro r h' n1 _ ⟨rfl, rfl⟩
  simp -implicitDefEqProofs only [go_sem, rE, eF, eL, orE, rrH]
  refine Run.keep [5, 4, 1, 0] ?_
  change Run _ _ ⟨[(5, _), (4, _), (1, _), (0, _)], _, _⟩
  exact hT 3 (n + 1) n n1 ⟨(fun h => by cases h), fun _ => hF3 c _⟩ (fun _ => by decide)
 ·simp -implicitDefEqProofs only [go_sem, rE, eF, eL, A8, c]
  refine Run.keep [5, 4, 1, 0] ?_
  change Run _ _ ⟨[(5, _), (4, _), (1, _), (0, _)], _, _⟩
  refine Run.wk (s' := ⟨[(5, .ptr (eF 5) (n + 1) 0 0), (4, .ptr (eF 4) n 0 0), (1, .int .i64 z), (0, .ptr rE s 0 0)], [(rE, s, .rows 3 [[.isl (byR B), .int .i64 k, .int .i64 0]]), (eF 5, n + 1, .rows 11 [A9n]), (eF 4, n, .rows 11 [A9n])], n + 2⟩) (.turn id ⟨.refl _, .refl _, .refl _, .refl _, trivial⟩ (.at 2 rfl rfl (.refl _) (.at 0 rfl rfl (.refl _) (.at 1 rfl rfl (.refl _) (.of fun e he => by cases he))))) (hT 0 (n + 1) n (n + 2) ⟨fun _ => by rw [hF c], fun h => (h rfl).elim⟩ (fun h => (c h).elim))
theorem B9K (s : Nat) (B : List Int) (hB : A6D B) : ∀ (d n k : Nat) (z : Int), z = 65 - (d : Int) → d ≤ 64 → k ≤ B.length → A3 Tryz.prog 16 [.ptr rE s 0 0, .int .i64 z] (rrH s B k 0) n (A9v s B k 0 (A1z d) fun p => .agg p.row) := by
 intro d
 induction d with
 | zero => exact fun n k z hz _ hk => B3H s B hB z (by omega) (by omega) (A1z 0) (A1z 0) (fun h => by omega) (fun h => by omega) (fun _ _ => rfl) n k hk
 | succ d ih => exact fun n k z hz hd hk => B3H s B hB z (by omega) (by omega) (A1z d) (A1z (d + 1)) (fun _ n k hk => ih n k (z + 1) (by omega) (by omega) hk) (fun _ => funext (C1X d)) (fun h => by omega) n k hk
abbrev rW : Nat := (15 * 10000 + 16)
abbrev eG (k : Nat) : Nat := 7 * 10000 + k
-- EV: rW, rE, eG
def bk1 (B s : Nat) (l : List Int) : A2 := [(B, s, .rows 1 (byR l))]
def D0u (B : Nat) (l : List Int) : Res := fun r h' _ => ∃ s' L, L = l ∧ r = .sl B s' 0 L.length ∧ h' = bk1 B s' L
theorem B9f (z : Int) (k : Nat) (hk : k ≤ 8) (n : Nat) : A3 Tryz.prog 15 [.int .u64 (IntKind.u64.wrap z), .int .i64 k] [] n (D0u rW (A1B z k)) := by
 refine A3.enterK w8 (Nat.le_of_ble_eq_true rfl) fun Q hQ => Run.go 100 ?_
 simp -implicitDefEqProofs only [go_sem, rW, rE, eG, A8]
 refine Run.roundsK (fun (x : Nat × Nat × Nat) => ⟨[(6, .int .i64 x.1), (5, .sl rW x.2.1 0 x.1), (1, .int .i64 k), (0, .int .u64 (uN z x.1))], bk1 rW x.2.1 (A1B z x.1), x.2.2⟩) (fun x => x.1 ≤ k) (fun x => k - x.1) (0, n, n + 1) ?_ (Nat.zero_le _) ?_
 ·exact .trans (.fresh rW 1 _ _ _) (.turn id ⟨.refl _, .nils, .refl _, .refl _, trivial⟩ (.at 0 rfl rfl (.refl _) trivial))
 rintro ⟨j, s1, m⟩ hj ih
 dsimp only at hj ih ⊢
 refine Run.unf A2S (Run.go 100 ?_)
 by_cases c : (j : Int) < k
 ·have hR := G4 (A1B z j)
  have hS := A5a (A1B z j)
  have hT := B2z (A1B z j)
  rw [A8S] at hR hT
  have fin := fun s' s2 m2 => ih s' (j + 1, s2, m2) (by dsimp only; omega) (by dsimp only; omega)
  dsimp only at fin
  unfold bk1 at fin
  rw [A1B, C1i] at fin
  unfold bk1
  generalize byR (A1B z j) = BR at *
  have f1 : (j ≤ j) = True := eq_true (Nat.le_refl _)
  simp -implicitDefEqProofs only [go_sem, rW, rE, eG, c, hR, hS, hT, f1]
  exact ⟨by omega, by omega, fin _ m (m + 1) (.turn id ⟨.refl _, .refl _, .refl _, .refl _, trivial⟩ (.of fun e he => ⟨e, he, rfl, rfl, .refl _⟩))⟩
 ·obtain rfl : j = k := by omega
  simp -implicitDefEqProofs only [go_sem, rW, rE, eG, c]
  subst hQ
  exact .is ⟨s1, _, rfl, by rw [A8S], rfl⟩
theorem B9O (z : Int) : Pure Tryz.prog 15 [.int .u64 (IntKind.u64.wrap z), .int .i64 4] (.isl (byR (A1B z 4))) :=
 Pure.of 1 ((B9f z 4 (by decide) 0).mono fun r h' n' h => by
  obtain ⟨s', L, rfl, rfl, rfl⟩ := h
  have hR := G4 (A1B z 4)
  have hT := B2z (A1B z 4)
  have hF := fun h => B8v (A1B z 4) 0 h
  unfold bk1
  generalize byR (A1B z 4) = BR at *
  generalize (A1B z 4).length = L at *
  have f1 : (L ≤ L) = True := eq_true (Nat.le_refl _)
  simp -implicitDefEqProofs only [go_sem, rW, rE, eG, hR, hT, hF, List.drop_zero, f1])
theorem C2o {s : Int} (hs : 0 ≤ s ∧ s < 4294967296) : le4 s = A1B s 4 := by
 obtain ⟨a, b, c, d, e, ha, hb, hc, hd, h⟩ := B3W hs
 have h2 := B7z [a, b, c, d] (by rw [← e]; exact C1r)
 rw [B4u, show IntKind.u64.wrap s = s by rw [C1m]; omega, show s = S2 [a, b, c, d] by simp only [S2]; omega]
 rw [show S2 [a, b, c, d] = s by simp only [S2]; omega, e]
 rw [show S2 [a, b, c, d] = s by simp only [S2]; omega] at h2
 exact h2.symm
theorem C3w {M : List Int} {a b c d : Int} (hB : K3 [a, b, c, d]) : A7s (A1B (O4 M) 4) = A7s [a, b, c, d] ↔ V4 a b c d = O4 M := by
 constructor
 ·intro h
  have h1 := A9i hB
  rw [← h, ← C2o (A4Y M), A9i C1r] at h1
  obtain ⟨a', b', c', d', e, ha, hb, hc, hd, hs⟩ := B3W (A4Y M)
  rw [e] at h1
  simp only [List.cons.injEq, and_true] at h1
  obtain ⟨rfl, rfl, rfl, rfl⟩ := h1
  rw [B8h ha hb hc hd, hs]
 ·intro h
  rw [← C2o (A4Y M), C1A (hB a (by simp)) (hB b (by simp)) (hB c (by simp)) (hB d (by simp)) h]
theorem B1m (M : List Int) (h : M.length < 9) : Pure Tryz.prog 7 [.isl (byR M)] (.tup [A1m, .int .i64 5]) := by
 have hR := G4 M
 generalize byR M = BR at *
 generalize M.length = L at *
 refine Pure.of 0 (A3.enterK R3 (Nat.le_of_ble_eq_true rfl) fun Q hQ => Run.go 100 ?_)
 have c5 : ((L : Int) - 4 < 5) = True := eq_true (by omega)
 simp -implicitDefEqProofs only [go_sem, rW, rE, eG, A8, hR, c5]
 subst hQ
 exact ⟨by omega, .is rfl⟩
theorem A7a (M : List Int) (a b c d : Int) (h5 : 5 ≤ M.length) (hg : G1 M) (hl6 : M.length ≤ 1000000) (hB : K3 [a, b, c, d]) : Pure Tryz.prog 7 [.isl (byR (M ++ [a, b, c, d]))] (B0R (B1C M a b c d)) := by
 have hl := hg.2
 have hs := B2Z M (by have : 10000000000 ≤ reachBytes := (by decide); omega)
 rw [show (M.map fun z => [V.int .u8 z]) = byR M from rfl] at hs
 have hw := B9O (O4 M)
 have hf := fun s n => B9K s M hg 64 n 5 1 rfl (by decide) h5
 have hws := A2b (A1B (O4 M) 4)
 have hds := A2b [a, b, c, d]
 have hbs := A2b (M.take 5)
 have hcmp := C3w (M := M) hB
 have hR : (byR (M ++ [a, b, c, d])).length = M.length + 4 := by rw [G4]; simp
 have hS := A5a (M ++ [a, b, c, d])
 have ht : (byR (M ++ [a, b, c, d])).take M.length = byR M := by simp [byR]
 have hd4 : ((byR (M ++ [a, b, c, d])).drop M.length).take 4 = byR [a, b, c, d] := by simp [byR]
 have ht5 : (byR (M ++ [a, b, c, d])).take 5 = byR (M.take 5) := by
  unfold byR
  rw [← List.map_take, List.take_append_of_le_length h5]
 have hU := A1W M
 have hWU := A1W (A1B (O4 M) 4)
 have hRm := G4 M
 have hbd : ∀ p k', k' ≤ M.length → A1z 64 (M.drop 5) = .ok (p, M.drop k') → p.bd ∧ p.each.length ≤ 1000000 := fun p k' hk' hp => by
  have h1 := A6p _ _ _ _ (fun z hz => hg.1 z (List.mem_of_mem_drop hz)) hp
  have h2 := congrArg List.length h1
  rw [List.length_append, List.length_drop] at h2
  have h3 := A9H p
  exact ⟨B4l (by omega), by omega⟩
 unfold B1C
 generalize hBR : byR (M ++ [a, b, c, d]) = BR at *
 generalize byR (M.take 5) = B5 at *
 generalize A7s (M.take 5) = T5 at *
 generalize byR (A1B (O4 M) 4) = WR at *
 generalize A7s (A1B (O4 M) 4) = WT at *
 generalize byR [a, b, c, d] = DR at *
 generalize A7s [a, b, c, d] = DT at *
 refine Pure.of 0 (A3.enterK R3 (Nat.le_of_ble_eq_true rfl) fun Q hQ => Run.go 12 ?_)
 have e0 : (M.length : Int) + 4 - 4 = (M.length : Int) := by omega
 have e1 : ((M.length + 4 : Nat) : Int) = (M.length : Int) + 4 := by omega
 have c5 : ((M.length : Int) < 5) = False := eq_false (by omega)
 have t0 : ((M.length : Int) - 0).toNat = M.length := by omega
 have t4 : ((M.length : Int) + 4 - (M.length : Int)).toNat = 4 := by omega
 have q0 : ((0 : Int) ≤ (M.length : Int)) = True := eq_true (by omega)
 have q1 : ((M.length : Int) ≤ (M.length : Int) + 4) = True := eq_true (by omega)
 simp -implicitDefEqProofs only [go_sem, rW, rE, eG, A8, hR, hS, e0, e1, c5, t0, t4, q0, q1, ht, hd4, hws, hds, Int.toNat_natCast]
 apply A8x
 ·intro h
  repeat' first
   | refine And.intro ?_ ?_
   | (refine A3.pureF hs (by simp -implicitDefEqProofs only [go_sem, rW, rE, eG, hU]) ?_; simp -implicitDefEqProofs only [go_sem, rW, rE, eG, hR, hS, e1, t0, t4, q0, q1, ht, hd4, hws, hds, Int.toNat_natCast])
   | (refine A3.pureF hw (by simp -implicitDefEqProofs only [go_sem, rW, rE, eG]) ?_; simp -implicitDefEqProofs only [go_sem, rW, rE, eG, hR, hS, e1, t0, t4, q0, q1, ht, hd4, hws, hds, Int.toNat_natCast])
   | (refine Run.keep [25, 4, 3, 2, 0] ?_; exact h)
   | (clear h; omega)
 by_cases hv : V4 a b c d = O4 M
 rotate_left
 ·rw [if_pos hv] at hQ
  have hc0 : (WT = DT) = False := eq_false fun h => hv (hcmp.1 h)
  refine Run.go 100 ?_
  simp -implicitDefEqProofs only [go_sem, rW, rE, eG, hc0]
  subst hQ
  exact .is rfl
 rw [if_neg (fun h => h hv)] at hQ
 have hc0 : (WT = DT) = True := eq_true (hcmp.2 hv)
 refine Run.go 100 ?_
 by_cases h83 : T5 = [83, 67, 82, 66, 1]
 rotate_left
 ·rw [if_pos h83] at hQ
  simp -implicitDefEqProofs only [go_sem, rW, rE, eG, hc0, hR, hS, e1, ht5, hbs, h83]
  subst hQ
  exact ⟨by omega, .is rfl⟩
 rw [if_neg (fun h => h h83)] at hQ
 simp -implicitDefEqProofs only [go_sem, rW, rE, eG, hc0, hR, hS, e1, ht5, hbs, h83, q0, q1, t0, ht]
 refine ⟨by omega, ?_⟩
 refine A3.at [0] [1] (hf _ _) rfl rfl ?_
 rintro r h' n1 _ ⟨p, k', e', hr, rfl, rfl⟩
 obtain ⟨g1, g2⟩ := C5 p
 have hk' := hr.le
 by_cases ce : e' = 0
 rotate_left
 ·rw [hr.err rfl ce] at hQ
  simp -implicitDefEqProofs only [go_sem, rW, rE, eG, rrH, g1, g2, ce]
  subst hQ
  repeat' first | exact .is rfl | refine And.intro ?_ ?_
 subst ce
 have hp := hr.ok rfl rfl
 rw [hp] at hQ
 by_cases ck : (k' : Int) < M.length
 ·simp only at hQ
  rw [if_pos (fun h => by have := congrArg List.length h; rw [List.length_drop] at this; simp at this; omega)] at hQ
  simp -implicitDefEqProofs only [go_sem, rW, rE, eG, rrH, g1, g2, ck]
  subst hQ
  exact .is rfl
 obtain ⟨b1, b2⟩ := hbd p k' hk' hp
 have hck := B2M p b1 b2
 have hps := Fn.row_sub R4 p
 simp only at hQ
 rw [if_neg (fun h => h (List.drop_eq_nil_of_le (by omega)))] at hQ
 simp -implicitDefEqProofs only [go_sem, rW, rE, eG, rrH, g1, g2, ck]
 refine A3.pureF hck (by simp -implicitDefEqProofs only [go_sem, rW, rE, eG, hps]) ?_
 by_cases c0 : B0f p = 0
 ·rw [if_pos c0] at hQ
  simp -implicitDefEqProofs only [go_sem, rW, rE, eG, c0, g1, g2]
  subst hQ
  exact .is (by simp -implicitDefEqProofs only [go_sem, rW, rE, eG, B0R, Fn.row_frz'])
 ·rw [if_neg c0] at hQ
  simp -implicitDefEqProofs only [go_sem, rW, rE, eG, c0, g1, g2]
  subst hQ
  exact .is rfl
end Go.Proofs.YtpmkgcjhbpiojaaGreatDoor
