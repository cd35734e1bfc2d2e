/-
 Equality of functions: of the parts. No condition.
-/
import Derived.Test.YtilggmmkmegefaaGreatDoorFnCk
set_option linter.unusedVariables false
set_option linter.unusedSimpArgs false
set_option maxRecDepth 100000
set_option maxHeartbeats 0
namespace Go.Proofs.YtilggmmkmegefaaGreatDoor
open Go.Abs
attribute [local irreducible] A4 Run O2
theorem B4R {α : Type} {a b : List α} {k : Nat} {x y : α} (h1 : a[k]? = some x) (h2 : b[k]? = some y) (h : ¬ x = y) : ¬ a = b := fun e => by
 subst e; rw [h1] at h2; exact h (Option.some.inj h2)
theorem B2h {α : Type} {a b : List α} (hl : a.length = b.length) (h : a.take a.length = b.take a.length) : a = b := by
 rw [List.take_length, hl, List.take_length] at h; exact h
theorem A2A {α : Type} {a b : List α} {k : Nat} {x : α} (h : a.take k = b.take k) (h1 : a[k]? = some x) (h2 : b[k]? = some x) : a.take (k + 1) = b.take (k + 1) := by
 rw [List.take_add_one, List.take_add_one, h, h1, h2]
theorem C3J {x y : Ins} (h : ¬ x = y) : (decide (x.op = y.op) && (decide (x.a = y.a) && (decide (x.b = y.b) && (decide (x.c = y.c) && decide (x.d = y.d))))) = false := by
 rw [Bool.eq_false_iff]
 intro hc
 simp only [Bool.and_eq_true, decide_eq_true_eq] at hc
 obtain ⟨_⟩ := x; obtain ⟨_⟩ := y
 simp_all
theorem C3S {x y : Kst} (h : ¬ x = y) : (decide (x.kind = y.kind) && ((decide (x.p = y.p) && decide (x.q = y.q)) && (decide (x.str = y.str) && decide (x.ref = y.ref)))) = false := by
 rw [Bool.eq_false_iff]
 intro hc
 simp only [Bool.and_eq_true, decide_eq_true_eq] at hc
 obtain ⟨_⟩ := x; obtain ⟨_⟩ := y
 simp_all
theorem C2T {x y : Upv} (h : ¬ x = y) : (decide (x.name = y.name) && (decide (x.loc = y.loc) && decide (x.idx = y.idx))) = false := by
 rw [Bool.eq_false_iff]
 intro hc
 simp only [Bool.and_eq_true, decide_eq_true_eq] at hc
 obtain ⟨_⟩ := x; obtain ⟨_⟩ := y
 simp_all
theorem C6m {x y : Vr} (h : ¬ x = y) : (decide (x.name = y.name) && (decide (x.reg = y.reg) && (decide (x.lo = y.lo) && (decide (x.hi = y.hi) && decide (x.attr = y.attr))))) = false := by
 rw [Bool.eq_false_iff]
 intro hc
 simp only [Bool.and_eq_true, decide_eq_true_eq] at hc
 obtain ⟨_⟩ := x; obtain ⟨_⟩ := y
 simp_all
noncomputable def B1r (p q : Fn) : Bool := by
 classical exact decide (p = q)
theorem A9j {p q : Fn} (h : p = q) : B1r p q = true := by simp [B1r, h]
theorem B4S {p q : Fn} (h : ¬ p = q) : B1r p q = false := by simp [B1r, h]
theorem Fn.ext' {p q : Fn} (h0 : p.name = q.name) (h1 : p.line = q.line) (h2 : p.params = q.params) (h3 : p.vararg = q.vararg) (h4 : p.regs = q.regs) (h5 : p.code = q.code) (h6 : p.lines = q.lines) (h7 : p.consts = q.consts)
  (h8 : p.protos = q.protos) (h9 : p.ups = q.ups) (h10 : p.vars = q.vars) : p = q := by
 obtain ⟨_⟩ := p; obtain ⟨_⟩ := q
 simp_all
structure Cells (p : Fn) (r : List V) : Prop where
 len : r.length = 11
 tk : r.take 11 = r
 g0 : r[0]? = some (.str p.name)
 g1 : r[1]? = some (.int .i64 p.line)
 g2 : r[2]? = some (.int .i64 p.params)
 g3 : r[3]? = some (.bool p.vararg)
 g4 : r[4]? = some (.int .i64 p.regs)
 g5 : r[5]? = some (.isl (p.code.map Ins.row))
 g6 : r[6]? = some (.isl (p.lines.map E3))
 g7 : r[7]? = some (.isl (p.consts.map Kst.row))
 g8 : r[8]? = some (.isl (p.protos.map Fn.row))
 g9 : r[9]? = some (.isl (p.ups.map Upv.row))
 g10 : r[10]? = some (.isl (p.vars.map Vr.row))
theorem Fn.cells (p : Fn) : Cells p p.row := by
 have h := C5 p
 refine ⟨h.1, h.2, ?_, ?_, ?_, ?_, ?_, ?_, ?_, ?_, ?_, ?_, ?_⟩ <;> (rw [p.row_eq]; rfl)
structure OneP (a b : Fn) : Prop where
 name : a.name = b.name
 line : a.line = b.line
 params : a.params = b.params
 vararg : a.vararg = b.vararg
 regs : a.regs = b.regs
 code : a.code = b.code
 lines : a.lines = b.lines
 consts : a.consts = b.consts
 protos : a.protos.length = b.protos.length
 ups : a.ups = b.ups
 vars : a.vars = b.vars
noncomputable def C1y (a b : Fn) : Bool := by
 classical exact decide (OneP a b)
theorem B5Z {p q : Fn} (h : OneP p q) : C1y p q = true := by simp [C1y, h]
theorem J6 {p q : Fn} (h : ¬ OneP p q) : C1y p q = false := by simp [C1y, h]
theorem OneP.refl (p : Fn) : OneP p p := ⟨rfl, rfl, rfl, rfl, rfl, rfl, rfl, rfl, rfl, rfl, rfl⟩
theorem B2Z : ∀ (n : Nat) (L M : List Fn), (Fn.eachs L).length ≤ n → L.length = M.length → (Fn.eachs L).length = (Fn.eachs M).length →
  (∀ (i : Nat) a b, (Fn.eachs L)[i]? = some a → (Fn.eachs M)[i]? = some b → OneP a b) → L = M
 | _, [], M, _, hl, _, _ => by
  have : M = [] := List.eq_nil_of_length_eq_zero hl.symm
  rw [this]
 | 0, p :: r, _, hn, _, _, _ => by
  have := Fn.each_pos p
  rw [Fn.eachs, List.length_append] at hn
  omega
 | n + 1, p :: r, [], _, hl, _, _ => by simp at hl
 | n + 1, p :: r, q :: s, hn, hl, hlen, hone => by
  have e1 : Fn.eachs (p :: r) = p :: Fn.eachs (p.protos ++ r) := by rw [Fn.eachs, Fn.each_eq, Fn.eachs_append]; rfl
  have e2 : Fn.eachs (q :: s) = q :: Fn.eachs (q.protos ++ s) := by rw [Fn.eachs, Fn.each_eq, Fn.eachs_append]; rfl
  rw [e1] at hn hlen hone
  rw [e2] at hlen hone
  have h0 := hone 0 p q rfl rfl
  have key := B2Z n (p.protos ++ r) (q.protos ++ s) (by simpa using hn) (by simp at hl; simp [h0.protos, hl]) (by simpa using hlen) fun i a b ha hb => hone (i + 1) a b (by simpa using ha) (by simpa using hb)
  have h1 := List.append_inj key h0.protos
  rw [Fn.ext' h0.name h0.line h0.params h0.vararg h0.regs h0.code h0.lines h0.consts h1.1 h0.ups h0.vars, h1.2]
theorem B5w (p q : Fn) : p = q ↔ p.each.length = q.each.length ∧ ∀ (i : Nat) a b, p.each[i]? = some a → q.each[i]? = some b → OneP a b := by
 constructor
 ·rintro rfl
  exact ⟨rfl, fun i a b ha hb => by rw [ha] at hb; cases hb; exact .refl a⟩
 ·rintro ⟨h1, h2⟩
  have := B2Z _ [p] [q] (Nat.le_refl _) rfl (by rw [Fn.eachs_one, Fn.eachs_one]; exact h1) (by rw [Fn.eachs_one, Fn.eachs_one]; exact h2)
  exact List.head_eq_of_cons_eq this
end Go.Proofs.YtilggmmkmegefaaGreatDoor
