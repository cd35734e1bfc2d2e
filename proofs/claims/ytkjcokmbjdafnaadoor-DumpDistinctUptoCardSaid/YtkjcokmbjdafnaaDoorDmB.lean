/-
  How much a function's bulk bounds. No condition.
-/
import Derived.Test.YtkjcokmbjdafnaaDoorBulk
import Derived.Test.YtkjcokmbjdafnaaDoorDmF
set_option linter.unusedVariables false
set_option linter.unusedSimpArgs false
set_option maxRecDepth 100000
namespace Go.Proofs.YtkjcokmbjdafnaaDoor
open Go.Abs
theorem bkLL_map {α : Type} {f : α → List V} : ∀ l : List α, bkLL (l.map f) = (l.map fun x => bkL (f x)).sum
  | [] => by simp [bkLL]
  | x :: r => by rw [List.map_cons, bkLL, bkLL_map r]; simp
theorem sum_le {α : Type} {f g : α → Nat} (c : Nat) : ∀ l : List α, (∀ x ∈ l, f x ≤ c * g x) → (l.map f).sum ≤ c * (l.map g).sum
  | [], _ => by simp
  | x :: r, h => by
    have h1 := h x List.mem_cons_self
    have h2 := sum_le c r fun y hy => h y (List.mem_cons_of_mem _ hy)
    simp only [List.map_cons, List.sum_cons, Nat.mul_add]
    omega
theorem flat_sum {α : Type} {f : α → List Int} : ∀ l : List α, (l.flatMap f).length = (l.map fun x => (f x).length).sum
  | [] => rfl
  | x :: r => by rw [List.flatMap_cons, List.length_append, flat_sum r]; simp
theorem bk_row (p : Fn) : bkL p.row = p.name.length + 11 + (bkLL (p.code.map Ins.row) + bkLL (p.lines.map lrow) + bkLL (p.consts.map Kst.row) + bkLL (p.protos.map Fn.row) + bkLL (p.ups.map Upv.row) + bkLL (p.vars.map Vr.row)) := by
  rw [Fn.row_eq]
  simp only [bkL, bkV]
  omega
theorem enc_len (p : Fn) : (encF p).length ≤ 17 * bkL p.row := by
  induction p using Fn.ind with
  | h p ih =>
  have hsl : ∀ t : List UInt8, (strL t).length = 8 + t.length := fun t => by unfold strL; rw [List.length_append, numL_len, List.length_map]
  rw [encF_eq, encL_flat, bk_row]
  simp only [List.length_append, hsl, numL_len, List.length_singleton, nums_len, flat_sum, bkLL_map]
  have h1 := sum_le (f := fun i => 8 * (insZs i).length) (g := fun i => bkL (Ins.row i)) 17 p.code (fun i _ => by simp [insZs, Ins.row, bkL, bkV])
  have h2 : 8 * p.lines.length ≤ 17 * (p.lines.map fun z => bkL (lrow z)).sum := by
    have := sum_le (f := fun _ => 8) (g := fun z => bkL (lrow z)) 17 p.lines (fun i _ => by simp [lrow, bkL, bkV])
    rw [List.map_const'] at this
    simpa [Nat.mul_comm] using this
  have h3 := sum_le (f := fun v => (valL v).length) (g := fun v => bkL (Kst.row v)) 17 p.consts (fun v _ => by
    have : (valL v).length ≤ 17 + v.str.length := by
      unfold valL
      rw [List.length_append, List.length_singleton]
      split
      · simp; omega
      split
      · simp [numL_len]
      split
      · rw [hsl]; omega
      · simp; omega
    simp only [Kst.row, bkL, bkV]
    omega)
  have h4 := sum_le (f := fun q => (encF q).length) (g := fun q => bkL (Fn.row q)) 17 p.protos ih
  have h5 := sum_le (f := fun u => (upL u).length) (g := fun u => bkL (Upv.row u)) 17 p.ups (fun u _ => by
    have : (upL u).length = 8 + u.name.length + 1 + 8 := by unfold upL; simp only [List.length_append, hsl, numL_len, List.length_singleton]
    simp only [Upv.row, bkL, bkV]
    omega)
  have h6 := sum_le (f := fun v => (vrL v).length) (g := fun v => bkL (Vr.row v)) 17 p.vars (fun v _ => by
    have : (vrL v).length = 8 + v.name.length + 8 * 4 := by unfold vrL; rw [List.length_append, hsl, nums_len]; rfl
    simp only [Vr.row, bkL, bkV]
    omega)
  omega
theorem each_bk (p : Fn) : 11 * p.each.length ≤ bkL p.row := by
  induction p using Fn.ind with
  | h p ih =>
  have key : ∀ l : List Fn, (∀ q ∈ l, 11 * q.each.length ≤ bkL q.row) → 11 * (Fn.eachs l).length ≤ bkLL (l.map Fn.row) := by
    intro l
    induction l with
    | nil => intro _; simp [Fn.eachs]
    | cons q r ihr =>
      intro h
      have h1 := h q List.mem_cons_self
      have h2 := ihr fun x hx => h x (List.mem_cons_of_mem _ hx)
      rw [Fn.eachs, List.length_append, List.map_cons, bkLL]
      omega
  have := key p.protos ih
  rw [Fn.each_eq, bk_row, List.length_cons]
  omega
end Go.Proofs.YtkjcokmbjdafnaaDoor
