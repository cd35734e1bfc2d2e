/-
 What an accepted function is; what the three changes answer. No condition.
-/
import Derived.Test.YtoanghfeednogaaGreatDoorFnSW
import Derived.Test.YtoanghfeednogaaGreatDoorPeE
import Derived.Test.YtoanghfeednogaaGreatDoorPeDL
import Derived.Test.YtoanghfeednogaaGreatDoorPeM
import Derived.Test.YtoanghfeednogaaGreatDoorPeJ
set_option linter.unusedVariables false
set_option linter.unusedSimpArgs false
set_option maxRecDepth 100000
set_option maxHeartbeats 0
namespace Go.Proofs.YtoanghfeednogaaGreatDoor
open Go.Abs
attribute [local irreducible] A2 Run
theorem B0Q {p : Fn} (h : B3l p = 0) : B1H p = 0 ∧ A4w p = 0 ∧ ∀ i ∈ p.code, A0d p i = 0 := by
 unfold B3l at h
 split at h
 ·omega
 split at h
 ·omega
 split at h
 ·omega
 rename_i h1 h2 h3
 simp only [ne_eq, Classical.not_not] at h1 h2 h3
 exact ⟨h1, h2, fun i hi => A1M.1 h3 _ (List.mem_map_of_mem hi)⟩
theorem B4p {p : Fn} (h : B1H p = 0) : p.code.length ≤ 16384 ∧ p.protos.length ≤ 1024 ∧ p.vars.length ≤ 16384 ∧ p.regs ≤ 4096 := by
 unfold B1H at h
 split at h
 ·rename_i hc; exact ⟨hc.1, hc.2.2.1, hc.2.2.2.2.1, hc.2.2.2.2.2.1⟩
 ·omega
theorem B8t {p : Fn} (h : A4w p = 0) : (p.lines.length = 0 ∨ p.lines.length = p.code.length) ∧ ∀ v ∈ p.vars, 0 ≤ v.lo ∧ v.lo ≤ v.hi ∧ v.hi ≤ p.code.length := by
 unfold A4w at h
 split at h
 ·rename_i hc
  obtain ⟨a1, a2, a3, a4, a5, a6, a7, a8, a9, a10⟩ := hc
  refine ⟨a6, fun v hv => ?_⟩
  rw [List.any_eq_false] at a10
  have := a10 v hv
  simp [A0t] at this
  omega
 ·omega
theorem A4b {p : Fn} {i : Ins} (h : A0d p i = 0) : chk i = 0 ∧ (J1 i.op = true → 0 ≤ i.b ∧ i.b < p.code.length) := by
 unfold A0d at h
 split at h
 ·rename_i h1; exact absurd h h1
 ·rename_i h1
  split at h
  ·rename_i h2; exact ⟨by simpa using h1, h2.2.2.1⟩
  ·omega
theorem C7K {i : Ins} (h : chk i = 0) : A0M (frm i.op).a i.a = true := by
 unfold chk at h
 split at h
 ·omega
 ·dsimp only at h
  split at h
  ·omega
  ·split at h
   ·omega
   ·rename_i h3
    simp only [Bool.not_eq_false, Bool.and_eq_true] at h3
    exact h3.1.1.1
theorem B9y {i : Ins} (h : chk i = 0) (ho : i.op = 26 ∨ i.op = 1) : 0 ≤ i.a ∧ i.a ≤ 4095 := by
 have h2 := C7K h
 have ha : (frm i.op).a = 1 := by rcases ho with ho | ho <;> rw [ho] <;> decide
 rw [ha] at h2
 have h3 : low 1 ≤ i.a ∧ i.a ≤ high 1 := of_decide_eq_true h2
 rw [show low 1 = 0 by decide, show high 1 = 4095 by decide] at h3
 exact h3
theorem A7T {p : Fn} (h : Y5 (F5 p) = 0) : B3l (F5 p) = 0 := ((B2n _).1 h).2 _ (F5 p).self_mem
theorem B8W {p : Fn} (h : Y5 (F5 p) = 0) : RemOK p := by
 obtain ⟨h1, h2, h3⟩ := B0Q (A7T h)
 obtain ⟨a1, a2, a3, a4⟩ := B4p h1
 obtain ⟨b3, b5⟩ := B8t h2
 have a1 : p.code.length ≤ 16384 := a1
 have a3 : p.vars.length ≤ 16384 := a3
 have b3 : p.lines.length = 0 ∨ p.lines.length = p.code.length := b3
 refine ⟨by omega, b3.symm, fun i hi hj => ?_, fun v hv => ?_, by omega⟩
 ·have : 0 ≤ i.b ∧ i.b < p.code.length := (A4b (h3 i hi)).2 hj
  omega
 ·have : 0 ≤ v.lo ∧ v.lo ≤ v.hi ∧ v.hi ≤ p.code.length := b5 v hv
  omega
theorem D1Y {p : Fn} (h : Y5 (F5 p) = 0) : InJ p.code := fun i hi hj => (A4b ((B0Q (A7T h)).2.2 i hi)).2 hj
theorem B1p : ∀ (l : List Fn), ∀ x ∈ Fn.eachs (l.map G8), ∃ q ∈ l, x = G8 q
 | [], x, h => by cases h
 | q :: r, x, h => by
  rw [List.map_cons, Fn.eachs, Fn.each_eq] at h
  rcases List.mem_append.1 h with h | h
  ·rcases List.mem_cons.1 h with h | h
   ·exact ⟨q, List.mem_cons_self, h⟩
   ·cases h
  ·obtain ⟨y, hy, e⟩ := B1p r x h
   exact ⟨y, List.mem_cons_of_mem _ hy, e⟩
theorem A9W : ∀ (l : List Fn), Fn.depths (l.map G8) ≤ 1
 | [] => by simp [Fn.depths]
 | q :: r => by
  rw [List.map_cons, Fn.depths, Fn.depth_eq]
  have := A9W r
  have h2 : Fn.depths (G8 q).protos = 0 := by show Fn.depths [] = 0; rw [Fn.depths]
  omega
theorem B5X (p : Fn) : (F5 p).depth ≤ 2 := by
 rw [Fn.depth_eq]
 have := A9W p.protos
 show Fn.depths (p.protos.map G8) + 1 ≤ 2
 omega
theorem C2x {p : Fn} (hp : p.bd) : (F5 p).bd := by
 intro x hx
 rw [Fn.each_eq] at hx
 rcases List.mem_cons.1 hx with rfl | hx
 ·obtain ⟨c1, c2, c3, c4, c5, c6⟩ := hp.self
  exact ⟨c1, c2, c3, by show (p.protos.map G8).length ≤ _; rw [List.length_map]; exact c4, c5, c6⟩
 ·obtain ⟨q, hq, rfl⟩ := B1p p.protos x hx
  exact ⟨by show 1 ≤ _; omega, Nat.zero_le _, Nat.zero_le _, Nat.zero_le _, by show ((q.ups.take 60).map f8).length ≤ _; simp; omega, Nat.zero_le _⟩
structure FewF (p : Fn) : Prop where
 bd : p.bd
 tot : p.tot ≤ 200
theorem FewF.child {p q : Fn} (h : FewF p) (hq : q ∈ p.protos) : FewF q :=
 ⟨h.bd.child hq, by have := B7L hq; have := h.tot; rw [Fn.tot_eq] at this; omega⟩
theorem FewF.code {p : Fn} (h : FewF p) : p.code.length ≤ 200 := by have := h.tot; rw [Fn.tot_eq] at this; omega
theorem FewF.protos {p : Fn} (h : FewF p) : p.protos.length ≤ 200 := by
 have h1 := (B7M p).1
 have h2 := h.tot
 rw [Fn.each_eq, List.length_cons] at h1
 have := Fn.eachs_len p.protos
 omega
theorem FewF.hb (p : Fn) (h : FewF p) : p.protos.length ≤ 100000 ∧ (∀ q ∈ p.protos, q.ups.length ≤ 4398046510976) ∧ (F5 p).bd ∧ (F5 p).depth ≤ 1000000 :=
 ⟨by have := h.protos; omega, fun q hq => (h.bd.child hq).self.ups, C2x h.bd, by have := B5X p; omega⟩
theorem B8D (p : Fn) (h : FewF p) : Pure Tryz.prog 15 [.agg p.row, .fn 16 []] (.agg (B5 C3 p).row) :=
 A6O _ rfl C3 FewF (fun p h q hq => h.child hq) FewF.hb (fun p h hc => B6Q p (by have := h.code; omega) (D1Y hc)) p h
theorem C0F (p : Fn) (h : FewF p) : Pure Tryz.prog 15 [.agg p.row, .fn 19 []] (.agg (B5 Z3 p).row) :=
 A6O _ rfl Z3 FewF (fun p h q hq => h.child hq) FewF.hb (fun p h hc => C0G p (B8W hc) (by have := h.code; omega)) p h
theorem B8J (p : Fn) (h : FewF p) : Pure Tryz.prog 15 [.agg p.row, .fn 23 []] (.agg (B5 Q6 p).row) :=
 A6O _ rfl Q6 FewF (fun p h q hq => h.child hq) FewF.hb (fun p h hc => by
  obtain ⟨h1, h2, h3⟩ := B0Q (A7T hc)
  exact A8h p (B8W hc) (by have := h.code; omega) h.bd (FewF.hb p h).2.1 (B4p h1).2.2.2
   (fun i hi ho => (B9y (A4b (h3 i hi)).1 (.inl ho)).1) (fun i hi ho => by have := (B9y (A4b (h3 i hi)).1 (.inr ho)).2; omega)) p h
inductive Sh : Fn → Fn → Prop
 | mk {a b : Fn} : a.name = b.name → a.params = b.params → a.regs = b.regs → a.code.length ≤ b.code.length → a.lines.length ≤ b.lines.length → a.vars.length ≤ b.vars.length → a.consts = b.consts → a.ups = b.ups →
  a.protos.length = b.protos.length → (∀ (k : Nat) (x y : Fn), a.protos[k]? = some x → b.protos[k]? = some y → Sh x y) → Sh a b
theorem Sh.refl (p : Fn) : Sh p p := by
 induction p using Fn.ind with
 | h p ih =>
  refine .mk rfl rfl rfl (Nat.le_refl _) (Nat.le_refl _) (Nat.le_refl _) rfl rfl rfl fun k x y hx hy => ?_
  rw [hx] at hy
  obtain rfl := Option.some.inj hy
  exact ih x (List.mem_of_getElem? hx)
theorem Sh.trans {a b c : Fn} (h : Sh a b) : Sh b c → Sh a c := by
 induction h generalizing c with
 | @mk a b a1 a2 a3 a4 a5 a6 a7 a8 a9 a10 ih =>
  rintro ⟨b1, b2, b3, b4, b5, b6, b7, b8, b9, b10⟩
  refine .mk (a1.trans b1) (a2.trans b2) (a3.trans b3) (Nat.le_trans a4 b4) (Nat.le_trans a5 b5) (Nat.le_trans a6 b6) (a7.trans b7) (a8.trans b8) (a9.trans b9) fun k x z hx hz => ?_
  have hk := (List.getElem?_eq_some_iff.1 hx).1
  have hy : b.protos[k]? = some (b.protos[k]'(by omega)) := by simp
  exact ih k x _ hx hy (b10 k _ z hy hz)
theorem D1q {p : Fn} (h : p.Le) (hq : ∀ q ∈ p.protos, q.bd) : p.bd := by
 intro x hx
 rw [Fn.each_eq] at hx
 rcases List.mem_cons.1 hx with rfl | hx
 ·exact h
 ·obtain ⟨q, hm, hx⟩ := Fn.mem_eachs.1 hx
  exact hq q hm x hx
theorem Sh.bd {a b : Fn} (h : Sh a b) : b.bd → a.bd := by
 induction h with
 | @mk a b a1 a2 a3 a4 a5 a6 a7 a8 a9 a10 ih =>
  intro hb
  obtain ⟨c1, c2, c3, c4, c5, c6⟩ := hb.self
  refine D1q ⟨by omega, by omega, by rw [a7]; exact c3, by omega, by rw [a8]; exact c5, by omega⟩ fun q hq => ?_
  obtain ⟨k, hk, hx⟩ := List.getElem_of_mem hq
  have hy : b.protos[k]? = some (b.protos[k]'(by omega)) := by simp
  exact ih k q _ (by rw [← hx]; simp) hy (hb.child (List.mem_of_getElem? hy))
theorem C0g : ∀ {l m : List Fn}, l.length = m.length → (∀ (k : Nat) (x y : Fn), l[k]? = some x → m[k]? = some y → x.tot ≤ y.tot) → Fn.totL l ≤ Fn.totL m
 | [], [], _, _ => Nat.le_refl _
 | [], _ :: _, h, _ => by cases h
 | _ :: _, [], h, _ => by cases h
 | x :: l, y :: m, h, hx => by
  rw [Fn.totL, Fn.totL]
  have h1 := hx 0 x y rfl rfl
  have h2 := C0g (l := l) (m := m) (by simpa using h) fun k u v hu hv => hx (k + 1) u v (by simpa using hu) (by simpa using hv)
  omega
theorem Sh.tot {a b : Fn} (h : Sh a b) : a.tot ≤ b.tot := by
 induction h with
 | @mk a b a1 a2 a3 a4 a5 a6 a7 a8 a9 a10 ih =>
  rw [Fn.tot_eq, Fn.tot_eq b]
  have := C0g a9 ih
  omega
theorem B5g {g : Fn → Fn} (hg : ∀ p : Fn, (g p).name = p.name ∧ (g p).params = p.params ∧ (g p).regs = p.regs ∧ (g p).code.length ≤ p.code.length ∧ (g p).lines.length ≤ p.lines.length ∧ (g p).vars.length ≤ p.vars.length ∧ (g p).consts = p.consts ∧ (g p).ups = p.ups) (p : Fn) : Sh (B5 g p) p := by
 induction p using Fn.ind with
 | h p ih =>
  have hk : ∀ (k : Nat) (x y : Fn), (p.protos.map (B5 g))[k]? = some x → p.protos[k]? = some y → Sh x y := fun k x y hx hy => by
   rw [List.getElem?_map, hy] at hx
   obtain rfl := Option.some.inj hx
   exact ih y (List.mem_of_getElem? hy)
  rw [V5]
  split
  ·obtain ⟨g1, g2, g3, g4, g5, g6, g7, g8⟩ := hg p
   exact .mk g1 g2 g3 g4 g5 g6 g7 g8 (List.length_map ..) hk
  ·exact .mk rfl rfl rfl (Nat.le_refl _) (Nat.le_refl _) (Nat.le_refl _) rfl rfl (List.length_map ..) hk
theorem A0D (gone : Nat → Bool) (p : Fn) : (E2 gone p).code.length ≤ p.code.length ∧ (E2 gone p).lines.length ≤ p.lines.length ∧ (E2 gone p).vars.length ≤ p.vars.length := by
 refine ⟨?_, ?_, ?_⟩
 ·show ((D1 gone p.code p.code.length).map _).length ≤ _
  rw [List.length_map, p7 _ _ _ (Nat.le_refl _)]
  exact A9x _ _
 ·show (if p.lines.length = 0 then [] else D1 gone p.lines p.code.length).length ≤ _
  split
  ·exact Nat.zero_le _
  ·refine Nat.le_trans (B0x gone p.lines p.code.length).length_le ?_
   simp; omega
 ·show ((p.vars.map _).filter _).length ≤ _
  exact Nat.le_trans (List.length_filter_le _ _) (by simp)
abbrev kN (k : Nat) : Nat := 7 * 10000 + k
-- EV: kN, Kst.row, Upv.row
attribute [local go_sem] kN Kst.row Upv.row
theorem A0x {a b : Fn} (h : Sh a b) : a.bd → Pure Tryz.prog 7 [.agg a.row, .agg b.row] (.bool true) := by
 induction h with
 | @mk a b a1 a2 a3 a4 a5 a6 a7 a8 a9 a10 ih =>
  intro ha
  obtain ⟨b1, b2, b3, b4, b5, b6⟩ := ha.self
  have hch : ∀ (k : Nat) (x : Fn), a.protos[k]? = some x → x.bd := fun k x hx => ha.child (List.mem_of_getElem? hx)
  have r1 := Fn.row_eq a
  have r2 := Fn.row_eq b
  rw [← a1, ← a2, ← a3, ← a7, ← a8] at r2
  rw [r1, r2]
  clear r1 r2 ha
  have l1 : (a.code.map Ins.row).length = a.code.length := List.length_map ..
  have l2 : (b.code.map Ins.row).length = b.code.length := List.length_map ..
  have l3 : (a.protos.map Fn.row).length = a.protos.length := List.length_map ..
  have l4 : (b.protos.map Fn.row).length = a.protos.length := by rw [List.length_map]; exact a9.symm
  have l5 : (a.consts.map Kst.row).length = a.consts.length := List.length_map ..
  have l6 : (a.ups.map Upv.row).length = a.ups.length := List.length_map ..
  have z3 : B6 (a.protos.map Fn.row) 11 = True := eq_true (B0 Fn.row 11 Fn.row_len _)
  have z4 : B6 (b.protos.map Fn.row) 11 = True := eq_true (B0 Fn.row 11 Fn.row_len _)
  have z5 : B6 (a.consts.map Kst.row) 5 = True := eq_true (B0 Kst.row 5 (fun _ => rfl) _)
  have z6 : B6 (a.ups.map Upv.row) 3 = True := eq_true (B0 Upv.row 3 (fun _ => rfl) _)
  have g3 : ∀ (k : Nat) x, a.protos[k]? = some x → (a.protos.map Fn.row)[k]? = some x.row := fun k x h => by rw [List.getElem?_map, h]; rfl
  have g4 : ∀ (k : Nat) x, b.protos[k]? = some x → (b.protos.map Fn.row)[k]? = some x.row := fun k x h => by rw [List.getElem?_map, h]; rfl
  have g5 : ∀ (k : Nat) x, a.consts[k]? = some x → (a.consts.map Kst.row)[k]? = some x.row := fun k x h => by rw [List.getElem?_map, h]; rfl
  have g6 : ∀ (k : Nat) x, a.ups[k]? = some x → (a.ups.map Upv.row)[k]? = some x.row := fun k x h => by rw [List.getElem?_map, h]; rfl
  generalize a.code.map Ins.row = CA at *
  generalize b.code.map Ins.row = CB at *
  generalize a.lines.map D2 = LA at *
  generalize b.lines.map D2 = LB at *
  generalize a.protos.map Fn.row = PA at *
  generalize b.protos.map Fn.row = PB at *
  generalize a.consts.map Kst.row = KA at *
  generalize a.ups.map Upv.row = UA at *
  generalize a.vars.map Vr.row = VA at *
  generalize b.vars.map Vr.row = VB at *
  have c1 : ((b.code.length : Int) < (a.code.length : Int)) = False := eq_false (by omega)
  refine Pure.of 0 (A2.enter U5 (Nat.le_of_ble_eq_true rfl) (Run.go 100 ?_))
  simp -implicitDefEqProofs only [go_sem, A5, l1, l2, l3, l4, l5, l6, c1]
  refine Run.rounds (fun (k : Nat) => ⟨[(66, .int .i64 k), (65, .int .i64 a.consts.length), (3, .ptr (kN 3) 1 0 0), (2, .ptr (kN 2) 0 0 0)], [(kN 3, 1, .rows 11 [[.str a.name, .int .i64 b.line, .int .i64 a.params, .bool b.vararg, .int .i64 a.regs, .isl CB, .isl LB, .isl KA, .isl PB, .isl UA, .isl VB]]), (kN 2, 0, .rows 11 [[.str a.name, .int .i64 a.line, .int .i64 a.params, .bool a.vararg, .int .i64 a.regs, .isl CA, .isl LA, .isl KA, .isl PA, .isl UA, .isl VA]])], 2⟩)
   (fun k => k ≤ a.consts.length) (fun k => a.consts.length - k) 0 (by first | (simp -implicitDefEqProofs only [go_sem]; done) | (simp -implicitDefEqProofs only [go_sem]; simp)) (Nat.zero_le _) ?_
  intro k hk ihk
  refine Run.unf y0 (Run.go 100 ?_)
  by_cases c : (k : Int) < a.consts.length
  ·obtain ⟨x, hx⟩ : ∃ x, a.consts[k]? = some x := ⟨a.consts[k]'(by omega), by simp⟩
   have hxr := g5 k x hx
   have k0 : ((0 : Int) ≤ (k : Int)) = True := eq_true (by omega)
   have k1 : (k < a.consts.length) = True := eq_true (by omega)
   simp -implicitDefEqProofs only [go_sem, c, k0, k1, l5, z5, hxr, Option.some.injEq, forall_eq']
   exact ⟨by omega, ihk _ (k + 1) (by omega) (by omega) (by first | (simp -implicitDefEqProofs only [go_sem]; done) | (simp -implicitDefEqProofs only [go_sem]; simp))⟩
  clear ihk
  simp -implicitDefEqProofs only [go_sem, c, l5, l6]
  clear c
  refine Run.rounds (fun (k : Nat) => ⟨[(84, .int .i64 k), (83, .int .i64 a.ups.length), (3, .ptr (kN 3) 1 0 0), (2, .ptr (kN 2) 0 0 0)], [(kN 3, 1, .rows 11 [[.str a.name, .int .i64 b.line, .int .i64 a.params, .bool b.vararg, .int .i64 a.regs, .isl CB, .isl LB, .isl KA, .isl PB, .isl UA, .isl VB]]), (kN 2, 0, .rows 11 [[.str a.name, .int .i64 a.line, .int .i64 a.params, .bool a.vararg, .int .i64 a.regs, .isl CA, .isl LA, .isl KA, .isl PA, .isl UA, .isl VA]])], 2⟩)
   (fun k => k ≤ a.ups.length) (fun k => a.ups.length - k) 0 (by first | (simp -implicitDefEqProofs only [go_sem]; done) | (simp -implicitDefEqProofs only [go_sem]; simp)) (Nat.zero_le _) ?_
  clear hk k
  intro k hk ihk
  refine Run.unf y5 (Run.go 100 ?_)
  by_cases c : (k : Int) < a.ups.length
  ·obtain ⟨x, hx⟩ : ∃ x, a.ups[k]? = some x := ⟨a.ups[k]'(by omega), by simp⟩
   have hxr := g6 k x hx
   have k0 : ((0 : Int) ≤ (k : Int)) = True := eq_true (by omega)
   have k1 : (k < a.ups.length) = True := eq_true (by omega)
   simp -implicitDefEqProofs only [go_sem, c, k0, k1, l6, z6, hxr, Option.some.injEq, forall_eq']
   exact ⟨by omega, ihk _ (k + 1) (by omega) (by omega) (by first | (simp -implicitDefEqProofs only [go_sem]; done) | (simp -implicitDefEqProofs only [go_sem]; simp))⟩
  clear ihk
  simp -implicitDefEqProofs only [go_sem, c, l3, l4]
  clear c
  refine Run.rounds (fun (k : Nat) => ⟨[(102, .int .i64 k), (101, .int .i64 a.protos.length), (3, .ptr (kN 3) 1 0 0), (2, .ptr (kN 2) 0 0 0)], [(kN 3, 1, .rows 11 [[.str a.name, .int .i64 b.line, .int .i64 a.params, .bool b.vararg, .int .i64 a.regs, .isl CB, .isl LB, .isl KA, .isl PB, .isl UA, .isl VB]]), (kN 2, 0, .rows 11 [[.str a.name, .int .i64 a.line, .int .i64 a.params, .bool a.vararg, .int .i64 a.regs, .isl CA, .isl LA, .isl KA, .isl PA, .isl UA, .isl VA]])], 2⟩)
   (fun k => k ≤ a.protos.length) (fun k => a.protos.length - k) 0 (by first | (simp -implicitDefEqProofs only [go_sem]; done) | (simp -implicitDefEqProofs only [go_sem]; simp)) (Nat.zero_le _) ?_
  clear hk k
  intro k hk ihk
  refine Run.unf y6 (Run.go 100 ?_)
  by_cases c : (k : Int) < a.protos.length
  ·obtain ⟨x, hx⟩ : ∃ x, a.protos[k]? = some x := ⟨a.protos[k]'(by omega), by simp⟩
   obtain ⟨y, hy⟩ : ∃ y, b.protos[k]? = some y := ⟨b.protos[k]'(by omega), by simp⟩
   have hxr := g3 k x hx
   have hyr := g4 k y hy
   have k0 : ((0 : Int) ≤ (k : Int)) = True := eq_true (by omega)
   have k1 : (k < a.protos.length) = True := eq_true (by omega)
   have hc := ih k x y hx hy (hch k x hx)
   obtain ⟨f1, f2⟩ := A9 x
   obtain ⟨e1, e2⟩ := A9 y
   have sx := Fn.row_sub C0 x
   have sy := Fn.row_sub C0 y
   generalize x.row = xr at *
   generalize y.row = yr at *
   simp -implicitDefEqProofs only [go_sem, c, k0, k1, l3, l4, z3, z4, hxr, hyr, f1, f2, e1, e2, Option.some.injEq, forall_eq']
   refine A2.pureF hc (by simp -implicitDefEqProofs only [go_sem, sx, sy]) ?_
   simp -implicitDefEqProofs only [go_sem]
   exact ⟨by omega, ihk _ (k + 1) (by omega) (by omega) (by first | (simp -implicitDefEqProofs only [go_sem]; done) | (simp -implicitDefEqProofs only [go_sem]; simp))⟩
  ·simp -implicitDefEqProofs only [go_sem, c]
inductive ChJ (code : List Ins) : (Int → Bool) → Nat → Nat → Prop
 | stop {S : Int → Bool} {a : Nat} {i : Ins} : code[a]? = some i → (i.op ≠ 14 ∨ V3 S a i.b = true) → ChJ code S a a
 | go {S : Int → Bool} {a e : Nat} {i : Ins} {b : Nat} : code[a]? = some i → i.op = 14 → i.b = (b : Int) → V3 S a b = false → ChJ code (V3 S a) b e → ChJ code S a e
theorem ChJ.eq {code : List Ins} {S : Int → Bool} {a e : Nat} (h : ChJ code S a e) : S a = false → chZ code (unZ S code.length) S a = e := by
 induction h with
 | @stop S a i hi hs =>
  intro ha
  have hk := (List.getElem?_eq_some_iff.1 hi).1
  rw [← B0U ha hk, chZ, hi]
  dsimp only
  by_cases c : i.op = 14
  ·rw [if_pos c, if_pos (hs.resolve_left fun h => h c)]
  ·rw [if_neg c]
 | @go S a e i b hi ho hb hn h ih =>
  intro ha
  have hk := (List.getElem?_eq_some_iff.1 hi).1
  rw [← B0U ha hk, chZ, hi]
  dsimp only
  rw [if_pos ho, hb, if_neg (by rw [hn]; decide), Int.toNat_natCast]
  exact ih hn
theorem ChJ.ex {code : List Ins} (hj : InJ code) : ∀ (f : Nat) (S : Int → Bool) (a : Nat), unZ S code.length = f → a < code.length → S a = false → ∃ e, ChJ code S a e
 | 0, S, a, hf, ha, hs => by have := B0U hs ha; omega
 | f + 1, S, a, hf, ha, hs => by
  have hi : code[a]? = some (code[a]'ha) := by simp
  by_cases c : (code[a]'ha).op = 14
  ·by_cases d : V3 S a (code[a]'ha).b = true
   ·exact ⟨a, .stop hi (.inr d)⟩
   ·obtain ⟨b0, b1⟩ := hj (code[a]'ha) (by simp) (by simp [J1, c])
    obtain ⟨t, ht⟩ : ∃ t : Nat, (code[a]'ha).b = t := ⟨(code[a]'ha).b.toNat, by omega⟩
    rw [ht] at d b1
    have hd : V3 S a t = false := by cases e : V3 S a t with | true => exact (d e).elim | false => rfl
    have := B0U hs ha
    obtain ⟨e, he⟩ := ChJ.ex hj f (V3 S a) t (by omega) (by omega) hd
    exact ⟨e, .go hi c ht hd he⟩
  ·exact ⟨a, .stop hi (.inl c)⟩
theorem ChJ.less {code : List Ins} {S : Int → Bool} {a e : Nat} (h : ChJ code S a e) : ∀ {T : Int → Bool}, (∀ z, T z = true → S z = true) → (∀ i, code[e]? = some i → i.op = 14 → V3 T a i.b = true) → ChJ code T a e := by
 induction h with
 | @stop S a i hi hs =>
  intro T hT he
  refine .stop hi ?_
  by_cases c : i.op = 14
  ·exact .inr (he i hi c)
  ·exact .inl c
 | @go S a e i b hi ho hb hn h ih =>
  intro T hT he
  have hm : ∀ z, V3 T a z = true → V3 S a z = true := fun z hz => by
   unfold V3 at hz ⊢
   simp only [Bool.or_eq_true] at hz ⊢
   exact hz.imp (hT z) id
  refine .go hi ho hb ?_ (ih hm fun i hi ho => ?_)
  ·cases hz : V3 T a b with
   | false => rfl
   | true => rw [hm _ hz] at hn; cases hn
  ·have := he i hi ho
   show (V3 T a i.b || _) = true
   rw [this]; rfl
theorem ChJ.mid {code : List Ins} {S : Int → Bool} {a e y : Nat} {i : Ins} (h : ChJ code S a e) (hi : code[e]? = some i) (ho : i.op = 14) (hb : i.b = (y : Int)) : S y = false → ∃ T, ChJ code T y e := by
 induction h with
 | @stop S a j hj hs =>
  intro hy
  rw [hi] at hj
  obtain rfl := Option.some.inj hj
  have h2 := hs.resolve_left fun h => h ho
  rw [hb] at h2
  unfold V3 at h2
  rw [hy, Bool.false_or, decide_eq_true_eq] at h2
  obtain rfl : y = a := by omega
  exact ⟨S, .stop hi hs⟩
 | @go S a e j b hj hjo hjb hn h ih =>
  intro hy
  by_cases c : y = a
  ·subst c; exact ⟨S, .go hj hjo hjb hn h⟩
  ·refine ih hi ?_
   unfold V3
   rw [hy, decide_eq_false (by omega)]; rfl
theorem ChJ.mem {code : List Ins} {S : Int → Bool} {a e : Nat} (h : ChJ code S a e) : ∃ i, code[e]? = some i := by
 induction h with
 | stop hi => exact ⟨_, hi⟩
 | go _ _ _ _ _ ih => exact ih
def noZ : Int → Bool := fun _ => false
theorem C8d {code : List Ins} (hj : InJ code) {a : Nat} (ha : a < code.length) : ∃ e : Nat, C1c code a = e ∧ ChJ code noZ a e := by
 obtain ⟨e, he⟩ := ChJ.ex hj _ noZ a rfl ha rfl
 exact ⟨e, he.eq rfl, he⟩
theorem C1m {code : List Ins} (hj : InJ code) {i : Ins} (hi : i ∈ code) : K8 (code.map (K8 code)) (K8 code i) = K8 code i := by
 by_cases c : J1 i.op = true ∧ i.op ≠ 26
 ·obtain ⟨b0, b1⟩ := hj i hi c.1
  obtain ⟨e, he, hch⟩ := C8d hj (a := i.b.toNat) (by omega)
  have e1 : K8 code i = { i with b := (e : Int) } := by unfold K8; rw [if_pos c, he]
  have e2 : C1c (code.map (K8 code)) e = e := by
   obtain ⟨j, hje⟩ := hch.mem
   have hje2 : (code.map (K8 code))[e]? = some (K8 code j) := by rw [List.getElem?_map, hje]; rfl
   refine ChJ.eq (S := noZ) (.stop hje2 ?_) rfl
   by_cases d : j.op = 14
   ·right
    obtain ⟨d0, d1⟩ := hj j (List.mem_of_getElem? hje) (by simp [J1, d])
    obtain ⟨y, hy⟩ : ∃ y : Nat, j.b = y := ⟨j.b.toNat, by omega⟩
    obtain ⟨T, hT⟩ := hch.mid hje d hy rfl
    have h3 := (hT.less (T := noZ) (fun z hz => by cases hz) (fun x hx _ => by
     rw [hje] at hx
     obtain rfl := Option.some.inj hx
     rw [hy]; unfold V3; simp)).eq rfl
    have h4 : K8 code j = { j with b := (e : Int) } := by
     unfold K8
     rw [if_pos ⟨by simp [J1, d], by omega⟩, hy, Int.toNat_natCast]
     congr 1
    rw [h4]
    unfold V3; simp
   ·left
    unfold K8
    split <;> exact d
  rw [e1]
  unfold K8
  rw [if_pos c]
  dsimp only
  rw [Int.toNat_natCast]
  exact congrArg (fun z => { i with b := z }) e2
 ·have e1 : K8 code i = i := by unfold K8; rw [if_neg c]
  rw [e1]
  unfold K8; rw [if_neg c]
theorem B8E {p : Fn} (hj : InJ p.code) : C3 (C3 p) = C3 p := by
 unfold C3
 dsimp only
 rw [List.map_map, List.map_congr_left (f := K8 (p.code.map (K8 p.code)) ∘ K8 p.code) (g := K8 p.code) fun i hi => C1m hj hi]
theorem C1R {p q : Fn} (h : p.ups = q.ups) : G8 p = G8 q := by unfold G8; rw [h]
theorem C2Y {g : Fn → Fn} (hg : ∀ q, (g q).ups = q.ups) (p : Fn) : (B5 g p).ups = p.ups := by
 rw [V5]
 dsimp only
 split
 ·exact hg p
 ·rfl
theorem B6v {g : Fn → Fn} (hg : ∀ q, (g q).ups = q.ups) (l : List Fn) : (l.map (B5 g)).map G8 = l.map G8 := by
 rw [List.map_map]; exact List.map_congr_left fun q _ => C1R (C2Y hg q)
theorem C0K (p : Fn) : B5 C3 (B5 C3 p) = B5 C3 p := by
 induction p using Fn.ind with
 | h p ih =>
  have hs := B6v (g := C3) (fun q => rfl) p.protos
  have hm : (p.protos.map (B5 C3)).map (B5 C3) = p.protos.map (B5 C3) := by
   rw [List.map_map]; exact List.map_congr_left ih
  by_cases c : Y5 (F5 p) = 0
  ·have e1 : B5 C3 p = { C3 p with protos := p.protos.map (B5 C3) } := by rw [V5, if_pos c]
   rw [e1, V5]
   dsimp only
   rw [hm]
   split
   ·have := B8E (D1Y c)
    have h2 : (p.code.map (K8 p.code)).map (K8 (p.code.map (K8 p.code))) = p.code.map (K8 p.code) := congrArg Fn.code this
    unfold C3
    dsimp only
    rw [h2]
   ·rfl
  ·have e1 : B5 C3 p = { p with protos := p.protos.map (B5 C3) } := by rw [V5, if_neg c]
   have e2 : F5 { p with protos := p.protos.map (B5 C3) } = F5 p := by unfold F5; dsimp only; rw [hs]
   rw [e1, V5, e2, if_neg c, hm]
theorem Fn.eta (p : Fn) : (⟨p.name, p.line, p.params, p.vararg, p.regs, p.code, p.lines, p.consts, p.protos, p.ups, p.vars⟩ : Fn) = p := by cases p; rfl
mutual
def Fn.wt : Fn → Nat
 | ⟨_, _, _, _, _, code, _, _, l, _, v⟩ => code.length + v.length + Fn.wtL l
def Fn.wtL : List Fn → Nat
 | [] => 0
 | q :: r => Fn.wt q + Fn.wtL r
end
theorem Fn.wt_eq (p : Fn) : p.wt = p.code.length + p.vars.length + Fn.wtL p.protos := by
 obtain ⟨a, b, c, d, e, f, g, h, i, j, k⟩ := p
 rw [Fn.wt]
theorem B7h {gone : Nat → Bool} : ∀ {n : Nat}, J2 gone n = n → ∀ k, k < n → gone k = false
 | 0, _, k, hk => absurd hk (Nat.not_lt_zero k)
 | n + 1, h, k, hk => by
  rw [J2] at h
  have := A9x gone n
  split at h
  ·omega
  ·rename_i c
   rcases Nat.lt_or_ge k n with h1 | h1
   ·exact B7h (by omega) k h1
   ·obtain rfl : k = n := by omega
    simpa using c
theorem B1V {gone : Nat → Bool} {n : Nat} (h : ∀ k, k < n → gone k = false) : ∀ {k : Nat}, k ≤ n → J2 gone k = k
 | 0, _ => rfl
 | k + 1, hk => by rw [J2, B1V h (by omega), h k (by omega)]; rfl
theorem B2L {α : Type} {gone : Nat → Bool} {n : Nat} (h : ∀ k, k < n → gone k = false) {l : List α} : ∀ {k : Nat}, k ≤ n → k ≤ l.length → D1 gone l k = l.take k
 | 0, _, _ => by simp [D1]
 | k + 1, hk, hl => by
  have hx : l[k]? = some (l[k]'(by omega)) := by simp
  rw [A8c hx (h k (by omega)), B2L h (by omega) (by omega), List.take_add_one, hx]; rfl
theorem B4A (gone : Nat → Bool) (p : Fn) : (E2 gone p).code.length ≤ p.code.length ∧ (E2 gone p).vars.length ≤ p.vars.length := by
 constructor
 ·show ((D1 gone p.code p.code.length).map _).length ≤ _
  rw [List.length_map, p7 _ _ _ (Nat.le_refl _)]
  exact A9x _ _
 ·show ((p.vars.map _).filter _).length ≤ _
  exact Nat.le_trans (List.length_filter_le _ _) (by simp)
theorem C1G {gone : Nat → Bool} {p : Fn} (hok : RemOK p) (h1 : (E2 gone p).code.length = p.code.length) (h2 : (E2 gone p).vars.length = p.vars.length) : E2 gone p = p := by
 have h1 : ((D1 gone p.code p.code.length).map (A0f gone)).length = p.code.length := h1
 rw [List.length_map, p7 _ _ _ (Nat.le_refl _)] at h1
 have hg := B7h h1
 have hk : D1 gone p.code p.code.length = p.code := by rw [B2L hg (Nat.le_refl _) (Nat.le_refl _), List.take_length]
 have hc : (D1 gone p.code p.code.length).map (A0f gone) = p.code := by
  rw [hk]
  refine (List.map_congr_left fun i hi => ?_).trans (List.map_id _)
  unfold A0f
  split
  ·rename_i hj
   have := hok.jumps i hi hj
   rw [B1V hg (by omega), Int.toNat_of_nonneg this.1]
   rfl
  ·rfl
 have hl : (if p.lines.length = 0 then [] else D1 gone p.lines p.code.length) = p.lines := by
  split
  ·rename_i hz; exact (List.length_eq_zero_iff.1 hz).symm
  ·rename_i hz
   have hl := hok.lines.resolve_right hz
   rw [B2L hg (Nat.le_refl _) (by omega), ← hl, List.take_length]
 have hv : (p.vars.map (A5S gone)).filter B3j = p.vars := by
  have e : p.vars.map (A5S gone) = p.vars := by
   refine (List.map_congr_left fun v hv => ?_).trans (List.map_id _)
   have := hok.vars v hv
   unfold A5S
   rw [B1V hg (by omega), B1V hg (by omega), Int.toNat_of_nonneg this.1.1, Int.toNat_of_nonneg this.2.1]
   rfl
  have h2 : ((p.vars.map (A5S gone)).filter B3j).length = p.vars.length := h2
  rw [e] at h2 ⊢
  rw [List.filter_eq_self]
  exact List.length_filter_eq_length_iff.1 h2
 unfold E2
 rw [hc, hl, hv]
 exact p.eta
structure Cut (g : Fn → Fn) : Prop where
 ups : ∀ q, (g q).ups = q.ups
 code : ∀ q, (g q).code.length ≤ q.code.length
 vars : ∀ q, (g q).vars.length ≤ q.vars.length
 id : ∀ q, Y5 (F5 q) = 0 → (g q).code.length = q.code.length → (g q).vars.length = q.vars.length → g q = q
theorem B2s {gone : Fn → Nat → Bool} {g : Fn → Fn} (hg : ∀ q, g q = E2 (gone q) q) : Cut g where
 ups q := by rw [hg]; rfl
 code q := by rw [hg]; exact (B4A _ _).1
 vars q := by rw [hg]; exact (B4A _ _).2
 id q hc h1 h2 := by rw [hg] at h1 h2 ⊢; exact C1G (B8W hc) h1 h2
theorem Cut.wt {g : Fn → Fn} (hg : Cut g) (p : Fn) : (B5 g p).wt ≤ p.wt ∧ ((B5 g p).wt = p.wt → B5 g p = p) := by
 induction p using Fn.ind with
 | h p ih =>
  have hl : ∀ l : List Fn, (∀ q ∈ l, (B5 g q).wt ≤ q.wt ∧ ((B5 g q).wt = q.wt → B5 g q = q)) → Fn.wtL (l.map (B5 g)) ≤ Fn.wtL l ∧ (Fn.wtL (l.map (B5 g)) = Fn.wtL l → l.map (B5 g) = l) := by
   intro l
   induction l with
   | nil => exact fun _ => ⟨Nat.le_refl _, fun _ => rfl⟩
   | cons q r ihr =>
    intro h
    obtain ⟨a1, a2⟩ := h q List.mem_cons_self
    obtain ⟨b1, b2⟩ := ihr fun x hx => h x (List.mem_cons_of_mem _ hx)
    rw [List.map_cons, Fn.wtL, Fn.wtL]
    exact ⟨by omega, fun e => by rw [a2 (by omega), b2 (by omega)]⟩
  obtain ⟨l1, l2⟩ := hl p.protos ih
  rw [V5]
  by_cases c : Y5 (F5 p) = 0
  ·rw [if_pos c, Fn.wt_eq, Fn.wt_eq p]
   dsimp only
   have c1 := hg.code p
   have c2 := hg.vars p
   refine ⟨by omega, fun e => ?_⟩
   have e2 := hg.id p c (by omega) (by omega)
   rw [e2, l2 (by omega)]
   exact p.eta
  ·rw [if_neg c, Fn.wt_eq, Fn.wt_eq p]
   dsimp only
   exact ⟨by omega, fun e => by rw [l2 (by omega)]; exact p.eta⟩
theorem C3z (p : Fn) : (B5 C3 p).wt = p.wt := by
 induction p using Fn.ind with
 | h p ih =>
  have hl : ∀ l : List Fn, (∀ q ∈ l, (B5 C3 q).wt = q.wt) → Fn.wtL (l.map (B5 C3)) = Fn.wtL l := by
   intro l
   induction l with
   | nil => exact fun _ => rfl
   | cons q r ihr =>
    intro h
    rw [List.map_cons, Fn.wtL, Fn.wtL, h q List.mem_cons_self, ihr fun x hx => h x (List.mem_cons_of_mem _ hx)]
  rw [V5]
  by_cases c : Y5 (F5 p) = 0
  ·rw [if_pos c, Fn.wt_eq, Fn.wt_eq p]
   show (p.code.map _).length + p.vars.length + Fn.wtL (p.protos.map _) = _
   rw [List.length_map, hl _ ih]
  ·rw [if_neg c, Fn.wt_eq, Fn.wt_eq p]
   dsimp only
   rw [hl _ ih]
theorem C2S : Cut Z3 := B2s (gone := fun p k => !A2A p.code k) fun _ => rfl
theorem C0E : Cut Q6 := B2s (gone := U1) fun _ => rfl
noncomputable def R7 (p : Fn) : Fn := B5 Q6 (B5 Z3 (B5 C3 p))
noncomputable def muF (p : Fn) : Nat := by
 classical exact 2 * p.wt + if B5 C3 p = p then 0 else 1
theorem B4J {p : Fn} (h : p ≠ R7 p) : muF (R7 p) < muF p := by
 unfold muF
 have j := C3z p
 obtain ⟨d1, d2⟩ := C2S.wt (B5 C3 p)
 obtain ⟨m1, m2⟩ := C0E.wt (B5 Z3 (B5 C3 p))
 have hs : (R7 p).wt ≤ p.wt := by unfold R7; omega
 rcases Nat.lt_or_ge (R7 p).wt p.wt with h1 | h1
 ·split <;> split <;> omega
 ·have hw : (R7 p).wt = p.wt := by omega
  have h2 : (B5 Q6 (B5 Z3 (B5 C3 p))).wt = p.wt := hw
  have e1 := d2 (by omega)
  have e2 := m2 (by omega)
  have e3 : R7 p = B5 C3 p := by unfold R7; rw [e2, e1]
  rw [e3] at h ⊢
  rw [if_pos (C0K p), if_neg fun e => h e.symm, j]
  omega
end Go.Proofs.YtoanghfeednogaaGreatDoor
