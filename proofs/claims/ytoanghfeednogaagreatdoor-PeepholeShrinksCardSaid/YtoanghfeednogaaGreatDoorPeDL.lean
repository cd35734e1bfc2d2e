/-
 Dead; what is large. No condition.
-/
import Derived.Test.YtoanghfeednogaaGreatDoorPeTR
import Derived.Test.YtoanghfeednogaaGreatDoorRchM
import Derived.Test.YtoanghfeednogaaGreatDoorFnCk
set_option linter.unusedVariables false
set_option linter.unusedSimpArgs false
set_option maxRecDepth 100000
set_option maxHeartbeats 0
namespace Go.Proofs.YtoanghfeednogaaGreatDoor
open Go.Abs
attribute [local irreducible] A2 Run
theorem B7n (p : Fn) (hc : p.code.length ≤ 10000) : Pure Tryz.prog 20 [.agg p.row] (.isl ((w9 p.code).map brw)) := by
 have h := Fn.row_sub C0 p
 rw [Fn.row_eq] at h ⊢
 refine B8U p.code hc _ _ _ _ _ _ _ _ _ _ ?_
 simp only [List.map_cons, List.map_nil, List.cons.injEq, and_true] at h ⊢
 simp_all
noncomputable def Z3 (p : Fn) : Fn := E2 (fun k => !A2A p.code k) p
theorem C0G (p : Fn) (hok : RemOK p) (hc : p.code.length ≤ 10000) : Pure Tryz.prog 19 [.agg p.row] (.agg (Z3 p).row) := by
 have hre := B7n p hc
 have hrc := B1m p hok (fun k => !A2A p.code k) 22
 obtain ⟨h1, h2⟩ := A9 p
 have hsub := Fn.row_sub C0 p
 have hB : ∀ i, i < p.code.length → ((w9 p.code).map brw)[i]? = some [.bool (A2A p.code i)] := fun i hi => C2D (B4y hi)
 have hBl : ((w9 p.code).map brw).length = p.code.length := by simp [A8q]
 have hBz : B6 ((w9 p.code).map brw) 1 = True := eq_true (B0 brw 1 (fun _ => rfl) _)
 refine Pure.of 0 (A2.enter A0W (Nat.le_of_ble_eq_true rfl) (Run.go 100 ?_))
 unfold Z3
 generalize hq : (E2 (fun k => !A2A p.code k) p).row = out at *
 generalize p.row = pr at *
 generalize (w9 p.code).map brw = B at *
 simp -implicitDefEqProofs only [go_sem, A5, h1, h2]
 refine A2.pureF hre (by simp -implicitDefEqProofs only [go_sem, hsub]) ?_
 simp -implicitDefEqProofs only [go_sem, h1, h2, Nat.reduceDiv]
 refine (hrc _ _ rfl (fun b hb e he => ?_) (fun i hi n => ?_) _).wk ?_
 ·simp only [List.mem_cons, List.not_mem_nil, or_false] at he
  intro e2
  rcases he with rfl | rfl | rfl <;> (dsimp only at e2; omega)
 ·refine A2.enterK u1 (Nat.le_of_ble_eq_true rfl) fun Q hQ => Run.go 100 ?_
  have k0 : ((0 : Int) ≤ (i : Int)) = True := eq_true (by omega)
  have k1 : (i < p.code.length) = True := eq_true hi
  have hBi := hB i hi
  simp -implicitDefEqProofs only [go_sem, A5, hBl, hBz, k0, k1, hBi, Option.some.injEq, forall_eq']
  subst hQ
  exact ⟨by omega, u9.to ⟨rfl, rfl⟩ (.refl _)⟩
 ·rintro r h' n' ⟨rfl, rfl⟩
  simp -implicitDefEqProofs only [go_sem, Nat.reduceDiv]
  refine ⟨.agg out, _, n', .refl _, ?_⟩
  have o1 : out.length = 11 := by rw [← hq]; exact (A9 _).1
  have o2 : out.take 11 = out := by rw [← hq]; exact (A9 _).2
  have o3 : out.map (V.sub C0) = out := by rw [← hq]; exact Fn.row_sub C0 _
  simp -implicitDefEqProofs only [go_sem, o1, o2, o3, Nat.reduceDiv]
  rw [← hq]
  exact Fn.row_sub C0 _
mutual
def Fn.szF : Fn → Nat → Nat
 | ⟨_, _, _, _, _, code, _, _, l, _, _⟩, m => Fn.szL l (code.length + 1) m
def Fn.szL : List Fn → Nat → Nat → Nat
 | [], n, _ => n
 | q :: r, n, m => if n < m then Fn.szL r (n + Fn.szF q (m - n)) m else n
end
mutual
def Fn.tot : Fn → Nat
 | ⟨_, _, _, _, _, code, _, _, l, _, _⟩ => code.length + 1 + Fn.totL l
def Fn.totL : List Fn → Nat
 | [] => 0
 | q :: r => Fn.tot q + Fn.totL r
end
theorem Fn.szF_eq (p : Fn) (m : Nat) : p.szF m = Fn.szL p.protos (p.code.length + 1) m := by
 obtain ⟨a, b, c, d, e, f, g, h, i, j, k⟩ := p
 rw [Fn.szF]
theorem Fn.tot_eq (p : Fn) : p.tot = p.code.length + 1 + Fn.totL p.protos := by
 obtain ⟨a, b, c, d, e, f, g, h, i, j, k⟩ := p
 rw [Fn.tot]
theorem C4F {m : Nat} : ∀ (l : List Fn) (n : Nat), ¬ n < m → Fn.szL l n m = n
 | [], n, _ => by rw [Fn.szL]
 | q :: r, n, h => by rw [Fn.szL, if_neg h]
theorem C6l {l : List Fn} (ih : ∀ q ∈ l, ∀ m, q.szF m < m → q.szF m = q.tot) : ∀ {n m : Nat}, Fn.szL l n m < m → Fn.szL l n m = n + Fn.totL l := by
 induction l with
 | nil => intro n m h; rw [Fn.szL, Fn.totL]; rfl
 | cons q r ihr =>
  intro n m h
  rw [Fn.szL] at h ⊢
  by_cases c : n < m
  ·rw [if_pos c] at h ⊢
   have h2 := ihr (fun x hx => ih x (List.mem_cons_of_mem _ hx)) h
   rw [h2] at h ⊢
   have h3 := ih q List.mem_cons_self (m - n) (by omega)
   rw [h3, Fn.totL]; omega
  ·rw [if_neg c] at h; omega
theorem C6k (p : Fn) : ∀ m, p.szF m < m → p.szF m = p.tot := by
 induction p using Fn.ind with
 | h p ih =>
  intro m h
  rw [Fn.szF_eq] at h ⊢
  rw [C6l ih h, Fn.tot_eq]
theorem C9C {l : List Fn} (ih : ∀ q ∈ l, ∀ m, q.szF m ≤ m + 3518437208781) : ∀ {n m : Nat}, n ≤ m + 3518437208781 → Fn.szL l n m ≤ m + 3518437208781 := by
 induction l with
 | nil => intro n m h; rw [Fn.szL]; exact h
 | cons q r ihr =>
  intro n m h
  rw [Fn.szL]
  by_cases c : n < m
  ·rw [if_pos c]
   have := ih q List.mem_cons_self (m - n)
   exact ihr (fun x hx => ih x (List.mem_cons_of_mem _ hx)) (by omega)
  ·rw [if_neg c]; exact h
theorem C4E (p : Fn) (hp : p.bd) : ∀ m, p.szF m ≤ m + 3518437208781 := by
 induction p using Fn.ind with
 | h p ih =>
  intro m
  rw [Fn.szF_eq]
  have := hp.self.code
  exact C9C (fun q hq => ih q hq (hp.child hq)) (by omega)
theorem B7L : ∀ {l : List Fn} {q : Fn}, q ∈ l → q.tot ≤ Fn.totL l
 | x :: r, q, h => by
  rw [Fn.totL]
  rcases List.mem_cons.1 h with rfl | h
  ·omega
  ·have := B7L h; omega
theorem B7M (p : Fn) : p.each.length ≤ p.tot ∧ ∀ q ∈ p.each, q.code.length + 1 ≤ p.tot := by
 induction p using Fn.ind with
 | h p ih =>
  have hl : ∀ l : List Fn, (∀ q ∈ l, q.each.length ≤ q.tot ∧ ∀ x ∈ q.each, x.code.length + 1 ≤ q.tot) → (Fn.eachs l).length ≤ Fn.totL l ∧ ∀ x ∈ Fn.eachs l, x.code.length + 1 ≤ Fn.totL l := by
   intro l
   induction l with
   | nil => intro _; exact ⟨Nat.le_refl _, fun x hx => by simp [Fn.eachs] at hx⟩
   | cons q r ihr =>
    intro h
    obtain ⟨a1, a2⟩ := h q List.mem_cons_self
    obtain ⟨b1, b2⟩ := ihr fun x hx => h x (List.mem_cons_of_mem _ hx)
    rw [Fn.eachs, Fn.totL]
    refine ⟨by simp; omega, fun x hx => ?_⟩
    rcases List.mem_append.1 hx with hx | hx
    ·have := a2 x hx; omega
    ·have := b2 x hx; omega
  obtain ⟨h1, h2⟩ := hl p.protos ih
  rw [Fn.each_eq, Fn.tot_eq]
  refine ⟨by simp; omega, fun q hq => ?_⟩
  rcases List.mem_cons.1 hq with rfl | hq
  ·omega
  ·have := h2 q hq; omega
mutual
def Fn.lgB : Fn → Bool
 | ⟨name, line, params, vararg, regs, code, lines, consts, l, ups, vars⟩ => decide (200 < Fn.szF ⟨name, line, params, vararg, regs, code, lines, consts, l, ups, vars⟩ 201) || decide (60 < regs) || Fn.lgL l
def Fn.lgL : List Fn → Bool
 | [] => false
 | q :: r => Fn.lgB q || Fn.lgL r
end
theorem Fn.lgB_eq (p : Fn) : p.lgB = (decide (200 < p.szF 201) || decide (60 < p.regs) || Fn.lgL p.protos) := by
 obtain ⟨a, b, c, d, e, f, g, h, i, j, k⟩ := p
 rw [Fn.lgB]
theorem C8v {p : Fn} (h : p.lgB = false) : p.tot ≤ 200 := by
 rw [Fn.lgB_eq] at h
 simp only [Bool.or_eq_false_iff, decide_eq_false_iff_not] at h
 have := C6k p 201 (by omega)
 omega
theorem B9e (p : Fn) (hp : p.bd) : ∀ m : Nat, m ≤ 1000 → Pure Tryz.prog 11 [.agg p.row, .int .i64 m] (.int .i64 (p.szF m)) := by
 induction p using Fn.ind with
 | h p ih =>
  intro m hm
  have hsz := C4E p hp m
  have hself := hp.self
  have hcb := hself.code
  have hpb := hself.protos
  rw [Fn.szF_eq] at hsz ⊢
  obtain ⟨h1, h2⟩ := A9 p
  rw [Fn.row_eq p]
  have hlP : (p.protos.map Fn.row).length = p.protos.length := List.length_map ..
  have hzP : B6 (p.protos.map Fn.row) 11 = True := eq_true (B0 Fn.row 11 Fn.row_len p.protos)
  have hrP : ∀ (k : Nat) q, p.protos[k]? = some q → (p.protos.map Fn.row)[k]? = some q.row := fun k q hk => by rw [List.getElem?_map, hk]; rfl
  have hlC : (p.code.map Ins.row).length = p.code.length := List.length_map ..
  have hall : ∀ q ∈ p.protos, ∀ m : Nat, m ≤ 1000 → Pure Tryz.prog 11 [.agg q.row, .int .i64 m] (.int .i64 (q.szF m)) := fun q hq => ih q hq (hp.child hq)
  have hbq : ∀ q ∈ p.protos, ∀ m, q.szF m ≤ m + 3518437208781 := fun q hq => C4E q (hp.child hq)
  clear ih
  generalize p.code.map Ins.row = CR at *
  generalize p.lines.map D2 = LR at *
  generalize p.vars.map Vr.row = VR at *
  generalize p.consts.map Kst.row = KR at *
  generalize p.protos.map Fn.row = PR at *
  generalize p.ups.map Upv.row = UR at *
  refine Pure.of 0 (A2.enter f7 (Nat.le_of_ble_eq_true rfl) (Run.go 100 ?_))
  simp -implicitDefEqProofs only [go_sem, A5, hlC]
  refine ⟨by omega, ?_⟩
  refine Run.rounds (fun (x : Nat × Nat) => ⟨[(6, .int .i64 x.1), (5, .int .i64 x.2), (2, .ptr (11 * 10000 + 2) 0 0 0), (1, .int .i64 m)], [((11 * 10000 + 2), 0, .rows 11 [[.str p.name, .int .i64 p.line, .int .i64 p.params, .bool p.vararg, .int .i64 p.regs, .isl CR, .isl LR, .isl KR, .isl PR, .isl UR, .isl VR]])], 1⟩)
   (fun x => x.1 ≤ p.protos.length ∧ x.2 ≤ m + 3518437208781 ∧ Fn.szL p.protos (p.code.length + 1) m = Fn.szL (p.protos.drop x.1) x.2 m) (fun x => p.protos.length - x.1) (0, p.code.length + 1) (by first | (simp -implicitDefEqProofs only [go_sem]; done) | (simp -implicitDefEqProofs only [go_sem]; simp)) ⟨Nat.zero_le _, by show p.code.length + 1 ≤ m + 3518437208781; omega, by simp⟩ ?_
  rintro ⟨k, a⟩ ⟨hk, ha, heq⟩ ih
  dsimp only at hk ha heq ih ⊢
  refine Run.unf A1C (Run.go 100 ?_)
  by_cases c : (k : Int) < p.protos.length
  ·by_cases d : (a : Int) < m
   ·obtain ⟨q, hq⟩ : ∃ q, p.protos[k]? = some q := ⟨p.protos[k]'(by omega), by simp⟩
    have hqm := List.mem_of_getElem? hq
    have hqr := hrP k q hq
    have k0 : ((0 : Int) ≤ (k : Int)) = True := eq_true (by omega)
    have k2 : (k < p.protos.length) = True := eq_true (by omega)
    have hqs := Fn.row_sub C0 q
    have hql := Fn.row_len q
    have htq : q.row.take 11 = q.row := List.take_of_length_le (by omega)
    have hcall := hall q hqm (m - a) (by omega)
    rw [show ((m - a : Nat) : Int) = (m : Int) - (a : Int) from by omega] at hcall
    have hb := hbq q hqm (m - a)
    have hnext : Fn.szL (p.protos.drop k) a m = Fn.szL (p.protos.drop (k + 1)) (a + q.szF (m - a)) m := by
     obtain ⟨q1, q2⟩ := List.getElem?_eq_some_iff.1 hq
     rw [List.drop_eq_getElem_cons q1, q2, Fn.szL, if_pos (by omega)]
    generalize q.row = qr at *
    simp -implicitDefEqProofs only [go_sem, c, d, k0, k2, hlP, hzP, hqr, hql, htq, Option.some.injEq, forall_eq']
    refine ⟨by omega, ?_⟩
    refine A2.pureF hcall (by simp -implicitDefEqProofs only [go_sem, hqs]) ?_
    simp -implicitDefEqProofs only [go_sem]
    exact ⟨by omega, by omega, ih _ (k + 1, a + q.szF (m - a)) ⟨by dsimp only; omega, by dsimp only; omega, by rw [heq, hnext]⟩ (by dsimp only; omega) (by first | (simp -implicitDefEqProofs only [go_sem]; done) | (simp -implicitDefEqProofs only [go_sem]; simp))⟩
   ·rw [heq, C4F _ _ (by omega)]
    simp -implicitDefEqProofs only [go_sem, c, d, hlP]
  ·rw [heq, show p.protos.drop k = [] from List.drop_eq_nil_of_le (by omega), Fn.szL]
   simp -implicitDefEqProofs only [go_sem, c, hlP]
theorem B9V : ∀ {l : List Fn} {k : Nat} {q : Fn}, l[k]? = some q → q.lgB = true → Fn.lgL l = true
 | [], k, q, h, _ => by simp at h
 | x :: r, 0, q, h, hq => by simp at h; subst h; rw [Fn.lgL, hq]; rfl
 | x :: r, k + 1, q, h, hq => by rw [Fn.lgL, B9V (l := r) (by simpa using h) hq]; simp
theorem B6U : ∀ {l : List Fn}, (∀ q ∈ l, q.lgB = false) → Fn.lgL l = false
 | [], _ => by rw [Fn.lgL]
 | x :: r, h => by rw [Fn.lgL, h x List.mem_cons_self, B6U fun q hq => h q (List.mem_cons_of_mem _ hq)]; rfl
theorem B6T (p : Fn) (hp : p.bd) : Pure Tryz.prog 4 [.agg p.row] (.bool p.lgB) := by
 induction p using Fn.ind with
 | h p ih =>
  have hsz := B9e p hp 201 (by decide)
  have hself := hp.self
  have hpb := hself.protos
  rw [Fn.lgB_eq]
  obtain ⟨h1, h2⟩ := A9 p
  rw [Fn.row_eq p] at hsz ⊢
  have sC := B8 C0 Ins.row p.code fun x _ => Ins.row_sub C0 x
  have sL := B8 C0 D2 p.lines fun x _ => A5P C0 x
  have sV := B8 C0 Vr.row p.vars fun x _ => Vr.row_sub C0 x
  have sK := B8 C0 Kst.row p.consts fun x _ => Kst.row_sub C0 x
  have sP := Fn.rows_sub C0 p.protos
  have sU := B8 C0 Upv.row p.ups fun x _ => Upv.row_sub C0 x
  have hlP : (p.protos.map Fn.row).length = p.protos.length := List.length_map ..
  have hzP : B6 (p.protos.map Fn.row) 11 = True := eq_true (B0 Fn.row 11 Fn.row_len p.protos)
  have hrP : ∀ (k : Nat) q, p.protos[k]? = some q → (p.protos.map Fn.row)[k]? = some q.row := fun k q hk => by rw [List.getElem?_map, hk]; rfl
  have hall : ∀ q ∈ p.protos, Pure Tryz.prog 4 [.agg q.row] (.bool q.lgB) := fun q hq => ih q hq (hp.child hq)
  clear ih
  generalize p.code.map Ins.row = CR at *
  generalize p.lines.map D2 = LR at *
  generalize p.vars.map Vr.row = VR at *
  generalize p.consts.map Kst.row = KR at *
  generalize p.protos.map Fn.row = PR at *
  generalize p.ups.map Upv.row = UR at *
  refine Pure.of 0 (A2.enter X8 (Nat.le_of_ble_eq_true rfl) (Run.go 100 ?_))
  simp -implicitDefEqProofs only [go_sem, A5]
  refine A2.pureF hsz (by simp -implicitDefEqProofs only [go_sem, sC, sL, sV, sK, sP, sU]) ?_
  by_cases c1 : (200 : Int) < ((p.szF 201 : Nat) : Int)
  ·have e : decide (200 < p.szF 201) = true := decide_eq_true (by omega)
   rw [e, Bool.true_or, Bool.true_or]
   simp -implicitDefEqProofs only [go_sem, c1]
  have e : decide (200 < p.szF 201) = false := decide_eq_false (by omega)
  rw [e, Bool.false_or]
  by_cases c2 : (60 : Int) < p.regs
  ·rw [decide_eq_true c2, Bool.true_or]
   simp -implicitDefEqProofs only [go_sem, c1, c2]
  rw [decide_eq_false c2, Bool.false_or]
  simp -implicitDefEqProofs only [go_sem, c1, c2, hlP]
  refine Run.rounds (fun (k : Nat) => ⟨[(15, .int .i64 k), (14, .int .i64 p.protos.length), (1, .ptr (4 * 10000 + 1) 0 0 0)], [((4 * 10000 + 1), 0, .rows 11 [[.str p.name, .int .i64 p.line, .int .i64 p.params, .bool p.vararg, .int .i64 p.regs, .isl CR, .isl LR, .isl KR, .isl PR, .isl UR, .isl VR]])], 1⟩)
   (fun k => k ≤ p.protos.length ∧ ∀ q ∈ p.protos.take k, q.lgB = false) (fun k => p.protos.length - k) 0 (by first | (simp -implicitDefEqProofs only [go_sem]; done) | (simp -implicitDefEqProofs only [go_sem]; simp)) ⟨Nat.zero_le _, by simp⟩ ?_
  rintro k ⟨hk, hno⟩ ih
  refine Run.unf A1o (Run.go 100 ?_)
  by_cases c : (k : Int) < p.protos.length
  ·obtain ⟨q, hq⟩ : ∃ q, p.protos[k]? = some q := ⟨p.protos[k]'(by omega), by simp⟩
   have hqm := List.mem_of_getElem? hq
   have hqr := hrP k q hq
   have k0 : ((0 : Int) ≤ (k : Int)) = True := eq_true (by omega)
   have k2 : (k < p.protos.length) = True := eq_true (by omega)
   have hqs := Fn.row_sub C0 q
   have hql := Fn.row_len q
   have htq : q.row.take 11 = q.row := List.take_of_length_le (by omega)
   have hcall := hall q hqm
   have hhit := fun h => B9V hq h
   generalize q.row = qr at *
   simp -implicitDefEqProofs only [go_sem, c, k0, k2, hlP, hzP, hqr, hql, htq, Option.some.injEq, forall_eq']
   refine A2.pureF hcall (by simp -implicitDefEqProofs only [go_sem, hqs]) ?_
   cases hb : q.lgB with
   | true =>
    rw [hhit hb]
    simp -implicitDefEqProofs only [go_sem]
   | false =>
    simp -implicitDefEqProofs only [go_sem]
    refine ⟨by omega, ih _ (k + 1) ⟨by omega, fun x hx => ?_⟩ (by omega) (by first | (simp -implicitDefEqProofs only [go_sem]; done) | (simp -implicitDefEqProofs only [go_sem]; simp))⟩
    rw [List.take_add_one, hq] at hx
    rcases List.mem_append.1 hx with hx | hx
    ·exact hno x hx
    ·simp at hx; rw [hx]; exact hb
  ·rw [B6U (fun q hq => hno q (by rw [List.take_of_length_le (by omega)]; exact hq))]
   simp -implicitDefEqProofs only [go_sem, c, hlP]
end Go.Proofs.YtoanghfeednogaaGreatDoor
