/-
 Functions (api.Proto) as data, whole; their parts, in preorder. No condition.
-/
import Derived.Test.YtilggmmkmegefaaGreatDoorOpT
import Derived.Test.YtilggmmkmegefaaGreatDoorArg
import Derived.Test.YtilggmmkmegefaaGreatDoorTsub
import Derived.Test.YtilggmmkmegefaaGreatDoorChecked
set_option linter.unusedVariables false
set_option linter.unusedSimpArgs false
set_option maxRecDepth 100000
namespace Go.Proofs.YtilggmmkmegefaaGreatDoor
open Go.Abs
structure Kst where
 kind : Int
 p : Int
 q : Int
 str : List UInt8
 ref : Int
 deriving DecidableEq, Inhabited
structure Vr where
 name : List UInt8
 reg : Int
 lo : Int
 hi : Int
 attr : Int
 deriving DecidableEq, Inhabited
structure Upv where
 name : List UInt8
 loc : Bool
 idx : Int
 deriving DecidableEq, Inhabited
structure Fn where
 name : List UInt8
 line : Int
 params : Int
 vararg : Bool
 regs : Int
 code : List Ins
 lines : List Int
 consts : List Kst
 protos : List Fn
 ups : List Upv
 vars : List Vr
 deriving Inhabited
def Kst.row (v : Kst) : List V := [.int .i64 v.kind, .int .i64 v.p, .int .i64 v.q, .str v.str, .int .i64 v.ref]
def Vr.row (v : Vr) : List V := [.str v.name, .int .i64 v.reg, .int .i64 v.lo, .int .i64 v.hi, .int .i64 v.attr]
def Upv.row (u : Upv) : List V := [.str u.name, .bool u.loc, .int .i64 u.idx]
def E3 (z : Int) : List V := [.int .i64 z]
mutual
def Fn.row : Fn → List V
 | ⟨name, line, params, vararg, regs, code, lines, consts, protos, ups, vars⟩ =>
  [.str name, .int .i64 line, .int .i64 params, .bool vararg, .int .i64 regs, .isl (code.map Ins.row), .isl (lines.map E3), .isl (consts.map Kst.row), .isl (Fn.rows protos), .isl (ups.map Upv.row), .isl (vars.map Vr.row)]
def Fn.rows : List Fn → List (List V)
 | [] => []
 | p :: r => Fn.row p :: Fn.rows r
end
theorem Fn.rows_map : ∀ l : List Fn, Fn.rows l = l.map Fn.row
 | [] => rfl
 | p :: r => by rw [Fn.rows, Fn.rows_map r]; rfl
theorem Fn.row_eq (p : Fn) : p.row = [.str p.name, .int .i64 p.line, .int .i64 p.params, .bool p.vararg, .int .i64 p.regs, .isl (p.code.map Ins.row), .isl (p.lines.map E3), .isl (p.consts.map Kst.row), .isl (p.protos.map Fn.row), .isl (p.ups.map Upv.row), .isl (p.vars.map Vr.row)] := by
 obtain ⟨a, b, c, d, e, f, g, h, i, j, k⟩ := p
 rw [Fn.row, Fn.rows_map]
theorem Fn.row_len (p : Fn) : p.row.length = 11 := by rw [Fn.row_eq]; rfl
mutual
theorem Fn.ind {C : Fn → Prop} (h : ∀ p, (∀ q ∈ p.protos, C q) → C p) : ∀ p : Fn, C p
 | ⟨a, b, c, d, e, f, g, i, l, j, k⟩ => h _ (Fn.inds h l)
theorem Fn.inds {C : Fn → Prop} (h : ∀ p, (∀ q ∈ p.protos, C q) → C p) : ∀ l : List Fn, ∀ q ∈ l, C q
 | [] => fun q hq => by cases hq
 | p :: r => fun q hq => (List.mem_cons.1 hq).elim (fun e => e ▸ Fn.ind h p) (Fn.inds h r q)
end
mutual
def Fn.wf : Fn → Prop
 | ⟨name, _, _, _, _, code, lines, consts, protos, ups, vars⟩ => name.length ≤ reachBytes ∧ code.length ≤ reachBytes ∧ lines.length ≤ reachBytes ∧ consts.length ≤ reachBytes ∧ protos.length ≤ reachBytes ∧ ups.length ≤ reachBytes ∧ vars.length ≤ reachBytes ∧ Fn.wfs protos
def Fn.wfs : List Fn → Prop
 | [] => True
 | p :: r => Fn.wf p ∧ Fn.wfs r
end
mutual
def Fn.each : Fn → List Fn
 | ⟨a, b, c, d, e, f, g, h, l, j, k⟩ => ⟨a, b, c, d, e, f, g, h, l, j, k⟩ :: Fn.eachs l
def Fn.eachs : List Fn → List Fn
 | [] => []
 | p :: r => Fn.each p ++ Fn.eachs r
end
theorem Fn.each_eq (p : Fn) : p.each = p :: Fn.eachs p.protos := by
 obtain ⟨a, b, c, d, e, f, g, h, i, j, k⟩ := p
 rw [Fn.each]
theorem Fn.eachs_append : ∀ l m : List Fn, Fn.eachs (l ++ m) = Fn.eachs l ++ Fn.eachs m
 | [], _ => rfl
 | p :: r, m => by rw [List.cons_append, Fn.eachs, Fn.eachs, Fn.eachs_append r m, List.append_assoc]
theorem Fn.eachs_one (p : Fn) : Fn.eachs [p] = p.each := by rw [Fn.eachs, Fn.eachs, List.append_nil]
theorem Fn.mem_eachs {q : Fn} : ∀ {l : List Fn}, q ∈ Fn.eachs l ↔ ∃ p ∈ l, q ∈ p.each
 | [] => by simp [Fn.eachs]
 | p :: r => by simp [Fn.eachs, Fn.mem_eachs (l := r)]
theorem Fn.self_mem (p : Fn) : p ∈ p.each := by rw [Fn.each_eq]; exact List.mem_cons_self
theorem Fn.each_pos (p : Fn) : 1 ≤ p.each.length := by rw [Fn.each_eq]; simp
theorem Fn.eachs_len : ∀ l : List Fn, l.length ≤ (Fn.eachs l).length
 | [] => Nat.le_refl _
 | p :: r => by
  have := Fn.each_pos p
  have := Fn.eachs_len r
  rw [Fn.eachs]; simp; omega
theorem Fn.each_trans (p : Fn) : ∀ q ∈ p.each, ∀ x ∈ q.each, x ∈ p.each := by
 induction p using Fn.ind with
 | h p ih =>
  intro q hq x hx
  rw [Fn.each_eq] at hq
  rcases List.mem_cons.1 hq with rfl | hq
  ·exact hx
  ·obtain ⟨r, hr, hq⟩ := Fn.mem_eachs.1 hq
   rw [Fn.each_eq]
   exact List.mem_cons_of_mem _ (Fn.mem_eachs.2 ⟨r, hr, ih r hr q hq x hx⟩)
theorem Fn.child_mem {p q x : Fn} (hq : q ∈ p.each) (hx : x ∈ q.protos) : x ∈ p.each :=
 Fn.each_trans p q hq x (by rw [Fn.each_eq]; exact List.mem_cons_of_mem _ (Fn.mem_eachs.2 ⟨x, hx, Fn.self_mem x⟩))
structure Fn.Le (p : Fn) : Prop where
 code : p.code.length ≤ 3518437208780
 lines : p.lines.length ≤ 17592186043904
 consts : p.consts.length ≤ 2932031007317
 protos : p.protos.length ≤ 733007751829
 ups : p.ups.length ≤ 4398046510976
 vars : p.vars.length ≤ 2932031007317
def Fn.bd (p : Fn) : Prop := ∀ q ∈ p.each, q.Le
theorem Fn.bd.self {p : Fn} (h : p.bd) : p.Le := h p p.self_mem
theorem Fn.bd.child {p q : Fn} (h : p.bd) (hq : q ∈ p.protos) : q.bd := fun x hx => h x (Fn.each_trans p q (Fn.child_mem p.self_mem hq) x hx)
theorem Fn.bd.within {p q : Fn} (h : p.bd) (hq : q ∈ p.each) : q.bd := fun x hx => h x (Fn.each_trans p q hq x hx)
mutual
def Fn.depth : Fn → Nat
 | ⟨_, _, _, _, _, _, _, _, l, _, _⟩ => Fn.depths l + 1
def Fn.depths : List Fn → Nat
 | [] => 0
 | p :: r => max (Fn.depth p) (Fn.depths r)
end
theorem Fn.depth_eq (p : Fn) : p.depth = Fn.depths p.protos + 1 := by
 obtain ⟨a, b, c, d, e, f, g, h, i, j, k⟩ := p
 rw [Fn.depth]
theorem D2 {α : Type} (φ : Nat → Nat → Nat → Nat → V) (f : α → List V) (l : List α) (h : ∀ x ∈ l, (f x).map (V.sub φ) = f x) : (l.map f).map (fun r => r.map (V.sub φ)) = l.map f := by
 rw [List.map_map]
 exact List.map_congr_left h
theorem Ins.row_sub (φ : Nat → Nat → Nat → Nat → V) (i : Ins) : i.row.map (V.sub φ) = i.row := by simp [Ins.row, V.sub]
theorem Kst.row_sub (φ : Nat → Nat → Nat → Nat → V) (i : Kst) : i.row.map (V.sub φ) = i.row := by simp [Kst.row, V.sub]
theorem Vr.row_sub (φ : Nat → Nat → Nat → Nat → V) (i : Vr) : i.row.map (V.sub φ) = i.row := by simp [Vr.row, V.sub]
theorem Upv.row_sub (φ : Nat → Nat → Nat → Nat → V) (i : Upv) : i.row.map (V.sub φ) = i.row := by simp [Upv.row, V.sub]
theorem B1T (φ : Nat → Nat → Nat → Nat → V) (i : Int) : (E3 i).map (V.sub φ) = E3 i := by simp [E3, V.sub]
theorem Fn.row_sub (φ : Nat → Nat → Nat → Nat → V) (p : Fn) : p.row.map (V.sub φ) = p.row := by
 induction p using Fn.ind with
 | h p ih =>
  rw [Fn.row_eq]
  simp only [List.map_cons, List.map_nil, V.sub, W3]
  rw [D2 φ _ _ fun x _ => Ins.row_sub φ x, D2 φ _ _ fun x _ => B1T φ x, D2 φ _ _ fun x _ => Kst.row_sub φ x, D2 φ _ _ ih, D2 φ _ _ fun x _ => Upv.row_sub φ x, D2 φ _ _ fun x _ => Vr.row_sub φ x]
theorem Fn.rows_sub (φ : Nat → Nat → Nat → Nat → V) (l : List Fn) : (l.map Fn.row).map (fun r => r.map (V.sub φ)) = l.map Fn.row := D2 φ _ _ fun x _ => Fn.row_sub φ x
end Go.Proofs.YtilggmmkmegefaaGreatDoor
