/-
 What peephole.quiet and peephole.kept answer. No condition.
-/
import Derived.Test.YtoanghfeednogaaGreatDoorPeTR
import Derived.Test.YtoanghfeednogaaGreatDoorOpcM
import Derived.Test.YtoanghfeednogaaGreatDoorFnCk
import Derived.Test.YtoanghfeednogaaGreatDoorFnMb
set_option linter.unusedVariables false
set_option linter.unusedSimpArgs false
set_option maxRecDepth 100000
set_option maxHeartbeats 0
namespace Go.Proofs.YtoanghfeednogaaGreatDoor
open Go.Abs
attribute [local irreducible] A2 Run
-- EV: Ins.v, Ins.row, Vr.row, Upv.row
attribute [local go_sem] Ins.v Ins.row Vr.row Upv.row
def C4A (o : Int) : Bool := decide (o = 1 ∨ o = 2 ∨ o = 3 ∨ o = 4 ∨ o = 5 ∨ o = 6 ∨ o = 7 ∨ o = 8 ∨ o = 20 ∨ o = 22 ∨ o = 19)
def A1m : List Ins → Bool
 | [] => false
 | i :: r => if C4A i.op = true then A1m r else if i.op = 29 then (if i.a = 0 then true else A1m r) else false
def A6v (code : List Ins) (a : Nat) : Bool := A1m (code.drop (a + 1))
theorem B8R (code : List Ins) (a : Nat) (ha : a < code.length) (hc : code.length ≤ 20000) : Pure Tryz.prog 26 [.isl (code.map Ins.row), .int .i64 a] (.bool (A6v code a)) := by
 have hlC : (code.map Ins.row).length = code.length := List.length_map ..
 have hD : ∀ k, ((code.map Ins.row).drop (a + 1))[k]? = (code[a + 1 + k]?).map Ins.row := fun k => by rw [List.getElem?_drop, List.getElem?_map]
 have hDl : ((code.map Ins.row).drop (a + 1)).length = code.length - (a + 1) := by simp
 have hDz : B6 ((code.map Ins.row).drop (a + 1)) 5 = True := eq_true (fun r hr => by obtain ⟨y, _, rfl⟩ := List.mem_map.1 (List.mem_of_mem_drop hr); rfl)
 have hzC : B6 (code.map Ins.row) 5 = True := eq_true (B0 Ins.row 5 (fun _ => rfl) code)
 unfold A6v
 generalize code.map Ins.row = CR at *
 refine Pure.of 0 (A2.enter A2b (Nat.le_of_ble_eq_true rfl) (Run.go 100 ?_))
 have k1 : (a + 1 ≤ code.length) = True := eq_true (by omega)
 have t1 : ((a : Int) + 1).toNat = a + 1 := by omega
 have t2 : ((code.length : Int) - ((a : Int) + 1)).toNat = code.length - (a + 1) := by omega
 have t3 : (CR.drop (a + 1)).take (code.length - (a + 1)) = CR.drop (a + 1) := List.take_of_length_le (by omega)
 simp -implicitDefEqProofs only [go_sem, A5, hlC, hzC, k1, t1, t2, t3, hDl]
 refine ⟨⟨by omega, by omega⟩, by omega, by omega, Int.le_refl _, ?_⟩
 generalize CR.drop (a + 1) = DR at *
 generalize hm : code.length - (a + 1) = m at *
 clear t1 t2 t3 k1 hzC hlC
 refine Run.rounds (fun (x : Nat) => ⟨[(12, .int .i64 x), (11, .int .i64 m), (10, .isl DR)], [], x⟩) (fun x => x ≤ m ∧ A1m (code.drop (a + 1)) = A1m (code.drop (a + 1 + x))) (fun x => m - x) 0 (by simp -implicitDefEqProofs only [go_sem]) ⟨Nat.zero_le _, rfl⟩ ?_
 rintro k ⟨hk, hq⟩ ih
 refine Run.unf A6g (Run.go 100 ?_)
 rw [hq]
 by_cases c : (k : Int) < m
 ·obtain ⟨i, hi⟩ : ∃ i, code[a + 1 + k]? = some i := ⟨code[a + 1 + k]'(by omega), by simp⟩
  have hd : code.drop (a + 1 + k) = i :: code.drop (a + 1 + (k + 1)) := by rw [List.drop_eq_getElem_cons (by omega)]; congr 1; exact Option.some.inj (by rw [← hi]; simp)
  have hir : DR[k]? = some i.row := by rw [hD, hi]; rfl
  have k0 : ((0 : Int) ≤ (k : Int)) = True := eq_true (by omega)
  have k1 : (k < m) = True := eq_true (by omega)
  rw [hd, A1m]
  by_cases h1 : C4A i.op = true
  ·rw [if_pos h1]
   have fin := fun s => ih s (k + 1) ⟨by omega, by rw [hq, hd, A1m, if_pos h1]⟩ (by omega)
   rw [hq, hd, A1m, if_pos h1] at fin
   have h2 : i.op = 1 ∨ i.op = 2 ∨ i.op = 3 ∨ i.op = 4 ∨ i.op = 5 ∨ i.op = 6 ∨ i.op = 7 ∨ i.op = 8 ∨ i.op = 20 ∨ i.op = 22 ∨ i.op = 19 := of_decide_eq_true h1
   rcases h2 with h2 | h2 | h2 | h2 | h2 | h2 | h2 | h2 | h2 | h2 | h2
   all_goals
    simp -implicitDefEqProofs only [go_sem, c, k0, k1, hDl, hDz, hir, h2, Option.some.injEq, forall_eq']
    exact ⟨⟨by omega, by omega⟩, fin _ (by simp -implicitDefEqProofs only [go_sem]; try omega)⟩
  ·rw [if_neg h1]
   have h2 : ¬ (i.op = 1 ∨ i.op = 2 ∨ i.op = 3 ∨ i.op = 4 ∨ i.op = 5 ∨ i.op = 6 ∨ i.op = 7 ∨ i.op = 8 ∨ i.op = 20 ∨ i.op = 22 ∨ i.op = 19) := fun h => h1 (decide_eq_true h)
   simp only [not_or] at h2
   obtain ⟨a1, a2, a3, a4, a5, a6, a7, a8, a9, a10, a11⟩ := h2
   by_cases h3 : i.op = 29
   ·rw [if_pos h3]
    by_cases h4 : i.a = 0
    ·rw [if_pos h4]
     simp -implicitDefEqProofs only [go_sem, c, k0, k1, hDl, hDz, hir, h3, h4, Option.some.injEq, forall_eq']
     done
    ·rw [if_neg h4]
     have fin := fun s => ih s (k + 1) ⟨by omega, by rw [hq, hd, A1m, if_neg h1, if_pos h3, if_neg h4]⟩ (by omega)
     rw [hq, hd, A1m, if_neg h1, if_pos h3, if_neg h4] at fin
     simp -implicitDefEqProofs only [go_sem, c, k0, k1, hDl, hDz, hir, h3, eq_false h4, Option.some.injEq, forall_eq']
     exact ⟨⟨by omega, by omega⟩, fin _ (by simp -implicitDefEqProofs only [go_sem]; try omega)⟩
   ·rw [if_neg h3]
    simp -implicitDefEqProofs only [go_sem, c, k0, k1, hDl, hDz, hir, eq_false a1, eq_false a2, eq_false a3, eq_false a4, eq_false a5, eq_false a6, eq_false a7, eq_false a8, eq_false a9, eq_false a10, eq_false a11, eq_false h3, Option.some.injEq, forall_eq']
    done
 ·have hd : code.drop (a + 1 + k) = [] := List.drop_of_length_le (by omega)
  rw [hd]
  simp -implicitDefEqProofs only [go_sem, c, A1m]
theorem B5d (l : List Ins) (hl : l.length ≤ 17592186043904) (f : Ins → Bool) (g : FuncId) (cs : List V) (h : A0) (hg : F0 Tryz.prog g = true) (hf : ∀ x ∈ l, ∀ n, A2 Tryz.prog g (.agg (Ins.row x) :: cs) h n fun r h' n' => r = .bool (f x) ∧ h' = h) (n : Nat) :
  A2 Tryz.prog 45 [.isl (l.map Ins.row), .fn g cs] h n fun r h' n' => r = .bool (l.any f) ∧ h' = h := by
 have key : ∀ n, A2 Tryz.prog 60 [.isl (l.map Ins.row), .fn g cs] h n fun r h' n' => (∃ z : Int, r = .int .i64 z ∧ decide (0 ≤ z) = l.any f) ∧ h' = h := by
  intro n
  have la : (l.map Ins.row).length = l.length := List.length_map ..
  have za := eq_true (B0 Ins.row 5 (fun _ => rfl) l)
  have ra : ∀ (k : Nat) x, l[k]? = some x → (l.map Ins.row)[k]? = some (Ins.row x) := fun k x hk => by rw [List.getElem?_map, hk]; rfl
  generalize l.map Ins.row = A at *
  refine A2.enterK F7 (Nat.le_of_ble_eq_true rfl) fun Q hQ => Run.go 100 ?_
  simp -implicitDefEqProofs only [go_sem, A5, la]
  refine Run.roundsK (fun (x : Nat × Nat) => ⟨[(8, .int .i64 x.1), (7, .int .i64 l.length), (1, .fn g cs), (0, .isl A)], h, x.2⟩) (fun x => x.1 ≤ l.length ∧ (l.take x.1).any f = false) (fun x => l.length - x.1) (0, n) (B7.wk ⟨D0.1 (by simp -implicitDefEqProofs only [go_sem]), fun _ h => h, Nat.le_refl _⟩) ⟨Nat.zero_le _, rfl⟩ ?_
  rintro ⟨k, m⟩ ⟨hk, hno⟩ ih
  simp only at hk hno ih ⊢
  refine Run.unf P0 (Run.go 100 ?_)
  by_cases hlt : k < l.length
  ·have q0 : ((k : Int) < (l.length : Int)) = True := eq_true (by omega)
   have q1 : ((0 : Int) ≤ (k : Int)) = True := eq_true (by omega)
   obtain ⟨x, hx⟩ : ∃ x, l[k]? = some x := ⟨l[k], by simp [hlt]⟩
   have hxr := ra k x hx
   have hc := hf x (List.mem_of_getElem? hx)
   have hzk : ((k + 1 : Nat) : Int) = (k : Int) + 1 := by omega
   simp -implicitDefEqProofs only [go_sem, q0, q1, la, za, hxr, Ins.row, hg, Option.some.injEq, forall_eq']
   repeat refine And.intro (by omega) ?_
   refine ⟨hg, ?_⟩
   refine (hc m).mono ?_
   rintro r h' n' ⟨rfl, rfl⟩
   by_cases hfx : f x = true
   ·simp -implicitDefEqProofs only [go_sem, hfx]
    subst hQ
    have : decide ((0 : Int) ≤ k) = true := decide_eq_true (by omega)
    exact .is ⟨⟨k, rfl, by rw [this, Z0 hx hfx]⟩, rfl⟩
   ·have hfx : f x = false := by simpa using hfx
    simp -implicitDefEqProofs only [go_sem, hfx]
    refine ⟨by omega, ?_⟩
    exact ih _ (k + 1, n') ⟨by simp only; omega, J0 hno hx hfx⟩ (by simp only; omega) (B7.wk ⟨D0.1 (by simp -implicitDefEqProofs only [go_sem, hzk]), fun _ h => h, Nat.le_refl _⟩)
  ·have e : k = l.length := by omega
   subst e
   simp -implicitDefEqProofs only [go_sem, Int.lt_irrefl]
   subst hQ
   exact .is ⟨⟨-1, rfl, by rw [T8 hno]; rfl⟩, rfl⟩
 generalize l.map Ins.row = A at *
 refine A2.enterK E3 (Nat.le_of_ble_eq_true rfl) fun Q hQ => Run.go 100 ?_
 simp -implicitDefEqProofs only [go_sem, A5]
 refine (key n).mono ?_
 rintro r h' n' ⟨⟨z, rfl, hz⟩, rfl⟩
 simp -implicitDefEqProofs only [go_sem, hz]
 subst hQ
 exact .is ⟨rfl, rfl⟩
def B6S (p : Fn) (r : Int) : Bool := p.vars.any (fun v => decide (v.reg = r)) || (p.code.any (fun i => decide (i.op = 26 ∧ i.a ≤ r ∧ r ≤ i.a + 2)) || p.protos.any (fun q => q.ups.any fun u => u.loc && decide (u.idx = r)))
theorem C1p (p : Fn) (hp : p.bd) (r : Int) (hr : r ≤ 1000000) (hn : ∀ i ∈ p.code, i.op = 26 → 0 ≤ i.a) : Pure Tryz.prog 28 [.agg p.row, .int .i64 r] (.bool (B6S p r)) := by
 have hlP : (p.protos.map Fn.row).length = p.protos.length := List.length_map ..
 have hzP : B6 (p.protos.map Fn.row) 11 = True := eq_true (fun r hr => by obtain ⟨y, _, rfl⟩ := List.mem_map.1 hr; exact Fn.row_len y)
 have hrP : ∀ (k : Nat) x, p.protos[k]? = some x → (p.protos.map Fn.row)[k]? = some x.row := fun k x h => by rw [List.getElem?_map, h]; rfl
 have cv := B0W p.vars (by have := hp.self.vars; omega) (fun v => decide (v.reg = r)) 44 [.ptr (28 * 10000 + 3) 1 0 0]
 have ci := B5d p.code (by have := hp.self.code; omega) (fun i => decide (i.op = 26 ∧ i.a ≤ r ∧ r ≤ i.a + 2)) 46 [.ptr (28 * 10000 + 3) 1 0 0]
 rw [Fn.row_eq p]
 unfold B6S
 generalize p.protos.map Fn.row = PR at *
 generalize p.vars.map Vr.row = VR at *
 generalize p.code.map Ins.row = CR at *
 refine Pure.of 0 (A2.enter A3g (Nat.le_of_ble_eq_true rfl) (Run.go 100 ?_))
 simp -implicitDefEqProofs only [go_sem, A5]
 refine (cv _ rfl (fun v hv n => ?_) _).mono ?_
 ·refine A2.enterK A1b (Nat.le_of_ble_eq_true rfl) fun Q hQ => Run.go 100 ?_
  simp -implicitDefEqProofs only [go_sem, A5]
  subst hQ
  exact .to (r2 := .bool (decide (v.reg = r))) ⟨rfl, rfl⟩ (.turn id ⟨.refl _, trivial⟩ (.at 1 rfl rfl (.refl _) (.at 2 rfl rfl (.refl _) (.of fun e he => by cases he))))
 rintro r' h' n' ⟨rfl, rfl⟩
 cases hv : p.vars.any (fun v => decide (v.reg = r)) with
 | true => simp -implicitDefEqProofs only [go_sem]; simp
 | false =>
 simp -implicitDefEqProofs only [go_sem]
 refine (ci _ rfl (fun i hi n => ?_) _).mono ?_
 ·refine A2.enterK A1c (Nat.le_of_ble_eq_true rfl) fun Q hQ => Run.go 100 ?_
  by_cases a1 : i.op = 26
  ·have hia := hn i hi a1
   by_cases a2 : i.a ≤ r
   ·simp -implicitDefEqProofs only [go_sem, A5, a1, a2]
    refine ⟨⟨by omega, by omega⟩, ?_⟩
    subst hQ
    exact .to (r2 := .bool (decide (r ≤ i.a + 2))) ⟨by simp [a1, a2], rfl⟩ (.turn id ⟨.refl _, trivial⟩ (.at 1 rfl rfl (.refl _) (.at 2 rfl rfl (.refl _) (.of fun e he => by cases he))))
   ·have a3 := eq_false a2
    simp -implicitDefEqProofs only [go_sem, A5, a1, a3]
    subst hQ
    exact .to (r2 := .bool false) ⟨by simp [a2], rfl⟩ (.turn id ⟨.refl _, trivial⟩ (.at 1 rfl rfl (.refl _) (.at 2 rfl rfl (.refl _) (.of fun e he => by cases he))))
  ·have a3 := eq_false a1
   simp -implicitDefEqProofs only [go_sem, A5, a3]
   subst hQ
   exact .to (r2 := .bool false) ⟨by simp [a1], rfl⟩ (.turn id ⟨.refl _, trivial⟩ (.at 1 rfl rfl (.refl _) (.at 2 rfl rfl (.refl _) (.of fun e he => by cases he))))
 rintro r' h' n' ⟨rfl, rfl⟩
 cases hc : p.code.any (fun i => decide (i.op = 26 ∧ i.a ≤ r ∧ r ≤ i.a + 2)) with
 | true => simp -implicitDefEqProofs only [go_sem]; simp
 | false =>
 simp -implicitDefEqProofs only [go_sem, hlP]
 simp only [Bool.false_or]
 refine Run.rounds (fun (x : Nat × Nat) => ⟨[(18, .int .i64 x.1), (17, .int .i64 p.protos.length), (16, .isl PR), (3, .ptr (28 * 10000 + 3) 1 0 0)], [((28 * 10000 + 3), 1, .rows 1 [[.int .i64 r]])], x.2⟩)
  (fun x => x.1 ≤ p.protos.length ∧ (p.protos.any fun q => q.ups.any fun u => u.loc && decide (u.idx = r)) = ((p.protos.drop x.1).any fun q => q.ups.any fun u => u.loc && decide (u.idx = r))) (fun x => p.protos.length - x.1) (0, n') (by simp -implicitDefEqProofs only [go_sem]) ⟨Nat.zero_le _, rfl⟩ ?_
 rintro ⟨k, m⟩ ⟨hk, ha⟩ ih
 dsimp only at hk ha ih ⊢
 refine Run.unf A7b (Run.go 100 ?_)
 rw [ha]
 by_cases c : (k : Int) < p.protos.length
 ·obtain ⟨q, hq⟩ : ∃ q, p.protos[k]? = some q := ⟨p.protos[k]'(by omega), by simp⟩
  have hd : p.protos.drop k = q :: p.protos.drop (k + 1) := by rw [List.drop_eq_getElem_cons (by omega)]; congr 1; exact Option.some.inj (by rw [← hq]; simp)
  have hqr := hrP k q hq
  have hpz := hp.self.protos
  have hqb := (hp.child (List.mem_of_getElem? hq)).self.ups
  have cu := A5J q.ups (by omega) (fun u => u.loc && decide (u.idx = r)) 48 [.ptr (28 * 10000 + 3) 1 0 0]
  rw [Fn.row_eq q] at hqr
  have k0 : ((0 : Int) ≤ (k : Int)) = True := eq_true (by omega)
  have k1 : (k < p.protos.length) = True := eq_true (by omega)
  rw [hd, List.any_cons]
  generalize q.ups.map Upv.row = UR at *
  simp -implicitDefEqProofs only [go_sem, c, k0, k1, hlP, hzP, hqr, Option.some.injEq, forall_eq']
  refine (cu _ rfl (fun u hu n => ?_) _).mono ?_
  ·refine A2.enterK A1d (Nat.le_of_ble_eq_true rfl) fun Q hQ => Run.go 100 ?_
   cases hu2 : u.loc with
   | true =>
    simp -implicitDefEqProofs only [go_sem, A5, hu2]
    subst hQ
    exact .to (r2 := .bool (decide (u.idx = r))) ⟨by simp [hu2], rfl⟩ (.turn id ⟨.refl _, trivial⟩ (.at 1 rfl rfl (.refl _) (.at 2 rfl rfl (.refl _) (.of fun e he => by cases he))))
   | false =>
    simp -implicitDefEqProofs only [go_sem, A5, hu2]
    subst hQ
    exact .to (r2 := .bool false) ⟨by simp [hu2], rfl⟩ (.turn id ⟨.refl _, trivial⟩ (.at 1 rfl rfl (.refl _) (.at 2 rfl rfl (.refl _) (.of fun e he => by cases he))))
  rintro r' h' n'' ⟨rfl, rfl⟩
  cases hc2 : (q.ups.any fun u => u.loc && decide (u.idx = r)) with
  | true => simp -implicitDefEqProofs only [go_sem]; simp
  | false =>
   have fin := fun s => ih s (k + 1, n'') ⟨by dsimp only; omega, by dsimp only; rw [ha, hd, List.any_cons, hc2, Bool.false_or]⟩ (by dsimp only; omega)
   rw [ha, hd, List.any_cons, hc2] at fin
   simp -implicitDefEqProofs only [go_sem]
   exact ⟨⟨by omega, by omega⟩, fin _ (by simp -implicitDefEqProofs only [go_sem]; try omega)⟩
 ·rw [List.drop_of_length_le (by omega)]
  simp -implicitDefEqProofs only [go_sem, c]
  try rfl
end Go.Proofs.YtoanghfeednogaaGreatDoor
